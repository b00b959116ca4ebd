/- Laid for one claim by slim.py out of: parts. -/
import Derived.Test.YtmdmffeoehfjgaaGreatDoorTwsF
set_option maxRecDepth 100000
set_option maxHeartbeats 0
set_option linter.unusedVariables false
set_option linter.unusedSimpArgs false
set_option linter.unusedSectionVars false
open Go.Proofs.Tryz (prog)
namespace Go.Proofs.YtmdmffeoehfjgaaGreatDoor
open Go.Al Go.Proofs
open Go.ChangeMaps (setBlock)
open Go.Proofs.Tryz
open M (Tu keyOk tuOk tuEnc deadB tuRd dS)
open M (Ent entOk entB de cmpB uC dc)
open M (Ent entOk entB de dc)
open M (Tu tuOk tuEnc dS)
open M (idOk xAdd xGap xBefore)
open M (idOk xAdd Gw it0 it1 plN mB)
open M (idOk xAdd it0 it1 Vw Tu)
open M (Tu tuOk tuEnc dS it0)
open M (it0)
open M (Tx)
open M (xGap xAdd idOk)
open Go.RowKit
open M (Tx running)
open M (Pn Ak Rp Ent tuOk tuEnc entOk entB ent0 rp0 Tu)
open M (E Seat Wk Pn Rp Ak Tx)
attribute [local irreducible] World.drew undef aE aM bn bS faV ixV ixS ixA aY cF ixG unV cvI cvS slS slV lenV cm cG aV aU aQ aB isB Instr.build Instr.buildSlice Instr.lookup Instr.mapUpdate Instr.range Instr.next Instr.entry Instr.makeMap Instr.makeSlice convert binOp Instr.sliceAt Instr.makeInterface Builtin.append_ Builtin.copy_ Builtin.delete_ Builtin.clear_ Builtin.len_ Builtin.cap_ Value.cells
section
variable{w w' w1 w2:World}{B:Bk}{u v rv yv:Value}{O O' O1 O2:Nat->Nat}{e e' e1:E}{ss:List (List Value)}{i:Nat}{s:Seat}
abbrev phs:Array Value:=#[.func (.func 52) #[] #[],.func (.func 53) #[] #[],.func (.func 54) #[] #[],.func (.func 55) #[] #[],.func (.func 56) #[] #[]]
theorem phases_spec:Cl prog 21 [] w λo w'=>o=.agg phs/\Fm F0 w w':=by refine cU0 func21 ?_;refine ae ?_;rintro b1 w1 rfl hs1 hw1 hf1;refine bst phs (aq hw1 (λw2 hw2 hs2 hf2=>?_) rfl rfl rfl);simp only[RU,aa (n:=5) hw2 rfl];exact Fm.own hf1 hf2 (λy e=>oM)
theorem eM(h:RP w O B e u rv yv ss):Cl prog 19 [pv B.x] w λo w'=>o=.bool (decide (e.phase=5))/\Fm F0 w w':=by
 refine cU1 func19 ?_;have hd:=Fm.drew F0 w;refine⟨λwx=>Fm F0 w.drew wx,Fm.refl _ _,?_⟩;simp only[RU];refine⟨iv (e.phase:Nat),λwx hx=>?_,?_⟩
 ·simp only[RU,((h.aS hd).aS hx).c2 2,I2]
 refine phases_spec.mono ?_;rintro _ w2 ⟨rfl,hf2⟩;refine⟨hf2,?_⟩;simp only[RU,show(((e.phase:Nat):Int) == 5)=decide (e.phase=5) by rw[Bool.eq_iff_iff,Nj,decide_eq_true_iff];omega];exact Fmf hd hf2
theorem nq(h:i<8):ixA 8 25 (.pointer (some ⟨B.x,23,none⟩)) (iv i)=some (sp B i):=by unfold ixA;dsimp only;rw[I9 ⟨oM,oM⟩,aC,H7]
def wkB:Wk->Bool
 | .none=>false
 | _=>true
theorem yX(k:Wk):aE (TypeDesc.func #[38,92] #[36] false) .neq (doV k) Value.nilFunc=some (.bool (wkB k)):=by cases k<;>kernel_rfl
theorem Fp(k:Nat):M.goes e k=(wkB (M.seatAt e k).wk&&(getD e.waits (k:Int)).isNone):=by unfold M.goes wkB;cases(M.seatAt e k).wk<;>rfl
theorem pz(h:RP w O B e u rv yv ss)(h5:e.phase=5):Cl prog 22 [pv B.x] w λo w'=>w'.ownsRow w.heap.size 3 1 o (M.runnable e).length ((M.runnable e).map λi=>iv (i:Nat))/\Fm F0 w w':=by
 refine cU1 func22 ?_ (V [(5,[3,16])]) (J [(10,[3])]);refine(eM h).mono ?_;rintro _ w1 ⟨rfl,hf1⟩;have h1:=h.aS hf1;simp only[RU,show decide (e.phase=5)=true from C9 h5,h1.c2 0];refine⟨λvs w3=>∃(o:Value) (k:Nat),vs=[o,iv k]/\k<=8/\w3.ownsRow w.heap.size 3 1 o (((List.range k).filter (M.goes e)).length) (((List.range k).filter (M.goes e)).map λi=>iv (i:Nat))/\Fm F0 w w3,λvs _=>(8 - nth vs 1).toNat,⟨nl,0,rfl,oM,World.ownsRow_nil w1 _ 3 1,hf1⟩,?_⟩;rintro w3 o v1 ⟨o',k,hvs,hk8,ho,hf3⟩;cases hvs;have h3:=h.aS hf3;by_cases hlt:k<8
 ·simp only[RU,C9 (oM:(k:Int)<8),h3.c 16 dC];obtain⟨H,W,hI,_,_,hW⟩:=(h3.al.lk dC).ex;have hlen:=N6 (M.goes e) (List.range k);rw[List.length_range] at hlen;refine aL (λvs w4=>∃o,vs=[o]/\w4.ownsRow w.heap.size 3 1 o (((List.range (k+1)).filter (M.goes e)).length) (((List.range (k+1)).filter (M.goes e)).map λi=>iv (i:Nat))/\Fm F0 w w4) ?_ ?_
  ·rintro _ w4 ⟨o,rfl,ho4,hf4⟩;simp only[RU,show IntKind.i64.wrap ((k:Int)+1)=((k+1:Nat):Int) by rw[af]<;>omega];exact⟨⟨o,k+1,rfl,oM,ho4,hf4⟩,by simp only[cX];omega⟩
  ·intro kk hkk;rw[List.range_succ,List.filter_append] at hkk;refine(xG hI k).mono ?_;rintro _ _ ⟨rfl,rfl⟩;obtain⟨_,rr,pl,_,_,_,_,kc⟩:=h3.dO (h3.fF hlt);have hw:(getD W (k:Int)).isSome=!(getD e.waits (k:Int)).isNone:=by rw[hW];cases getD e.waits (k:Int)<;>rfl
   simp only[RU,Bz,nq hlt,kc 6 dC,hw];simp only[RU,yX];have hgo:=Fp (e:=e) k;cases hb:wkB (M.seatAt e k).wk with
   | false=>rw[hb,MO] at hgo;simp only[RU];exact hkk _ _ ⟨_,rfl,by simpa[hgo] using ho,hf3⟩
   | true=>
    rw[hb,MX] at hgo;simp only[RU];cases hn:(getD e.waits (k:Int)).isNone with
    | false=>rw[hn] at hgo;simp only[RU];exact hkk _ _ ⟨_,rfl,by simpa[hgo] using ho,hf3⟩
    | true=>rw[hn] at hgo;simp only[RU];refine dF E25 oM 25 (cs:=[iv k]) rfl (dT _ _) (by intro u hu;simp at hu;subst hu;rfl) ho (by unfold maxLen;omega) oM hf3.size ?_;intro v' w5 ho5 _ hf5;exact hkk _ _ ⟨v',rfl,by simpa[hgo] using ho5,Fm.own hf3 hf5 (λy hy=>hy)⟩
 ·obtain rfl:k=8:=oM;simp only[RU,show decide (((8:Nat):Int)<8)=false from rfl];exact⟨ho,hf3⟩
theorem ox(h:RP w O B e u rv yv ss)(h5:e.phase=5)(hi:i<8){a:Ak}(ha:1<=a.call/\a.call<=9)(hq:M.ask e i a=some e'):Cl prog 10 [pv B.x,iv i,.agg (akC a)] w λo w'=>o=iv 0/\Ex O w B e' w':=by
 have hs:=h.fF hi;unfold M.ask at hq;refine cU3 func10 ?_;refine ae ?_;rintro b1 w1 rfl hs1 hw1 hf1;have h1:=h.aS hf1;cases hk:(M.seatAt e i).wk<;>rw[hk] at hq<;>cases hq;simp only[RU,ab hw1,show decide ((i:Int)<0)=false from C8 oM,show decide ((8:Int)<=i)=false from C8 oM,C8 (oM:¬a.call<1),C8 (oM:¬9<a.call),h1.c2 0];refine(eM h1).mono ?_;rintro _ w2 ⟨rfl,hf2⟩;have h2:=h1.aS hf2;obtain⟨_,rr,pl,k0,_,_,_,kc⟩:=h2.dO hs;have hd:=Fm.drew F0 w2;simp only[RU,show decide (e.phase=5)=true from C9 h5,nq hi,kc 6 dC,yX,hk,wkB,aa (n:=5) (hd.heap (hf2.heap hw1 id) id) rfl];refine bst (seC i { M.seat0 with ask:=a,wk:=.begin } nl np).toArray ⟨rfl,?_⟩;refine((h2.aS hd).al.x dC).B1 (j:=0) (n:=25) k0 rfl dC (G8.1 (by rfl)) λw3 hx3 hs3 hf3=>?_;obtain⟨O',h4,g4⟩:=(h2.aS hd).u0 (s':={ M.seat0 with ask:=a,wk:=.begin }) (cs':=seC i { M.seat0 with ask:=a,wk:=.begin } nl np) (D:=F0) hi (by
  refine cast (I3 (λz=>EgB w3 B.x (hdC B e u) (ss.set i z) (tlC B e rv yv)) ?_) hx3
  rfl) hf3 ⟨nl,np,rfl,CellsAt.aT (World.ownsRow_nil w3 0 23 2),(λy hy=>by cases hy),rfl⟩ (λy e=>e.elim)
 exact⟨O',u,rv,yv,_,h4,(Stp.gT (Fmf (Fmf hf1 hf2) hd)).trans ⟨g4.mono (λy e=>e.elim),hf3.mono (λy _ e=>by rw[e,h.x0];decide)⟩⟩
theorem Bd(h:RP w O B e u rv yv ss)(hi:e.seats[i]?=some s)(hq:M.stepM e i=some e'):ClV prog (doV s.wk) [pv B.x,sp B i] w λo w'=>o=iv 0/\Ex O w B e' w':=by
 unfold M.stepM at hq;rw[h.at_ hi] at hq;cases hk:s.wk<;>rw[hk] at hq
 ·cases hq
 ·exact ay kR (vU h hi hq)
 ·exact ay kR (lB h hi hq)
 ·exact ay kR (kY h hi hq)
 ·exact ay kR (tQ h hi hq)
 ·exact ay kR (rE h hi hq)
end
section
variable{w w' w1 w2:World}{B:Bk}{u v rv yv rv' yv':Value}{O O' O1 O2:Nat->Nat}{e e' e1:E}{ss:List (List Value)}{i:Nat}{s:Seat}{D:Nat->Prop}{p q:Pg}{n:Int}{r:Rc}
theorem RP.t1(h:RP w O B e u rv yv ss){o:Nat}{x:Value}{k:KV}(e':E)(ho:o<8)(hx1:x.oneCell'=true)(ht:(tlC B e rv yv).set o x=tlC B e' rv yv)(hp:e'.phase<=2->yv=nl)(hk:∀w',RP w' O B e' u rv yv ss->Fm (·=B.x) w w'->k undef w')(hh:hdC B e u=hdC B e' u:=by rfl)(h1:e'.s=e.s:=by rfl)(h2:e'.st=e.st:=by rfl)(h3:e'.holds=e.holds:=by rfl)(h4:e'.waits=e.waits:=by rfl)(h5:e'.txns=e.txns:=by rfl)(h6:e'.m=e.m:=by rfl)(h7:e'.nxt=e.nxt:=by rfl)(h8:e'.room=e.room:=by rfl)(h9:e'.recs=e.recs:=by rfl)(h10:e'.met=e.met:=by rfl)(h11:e'.saves=e.saves:=by rfl)(h12:e'.seats=e.seats:=by rfl):St 1 w (.pointer (some ⟨B.x,223+o,none⟩)) x k:=(h.al.x dC).stl ho hx1 λw' hx hs hf=>hk w' (h.cells (e':=e') (by rw[<- hh,<- ht];exact hx) hf h1 h2 h3 h4 h5 h6 h7 h8 h9 h10 h11 h12 hp) hf
theorem RP.BY(h:RP w O B e u rv yv ss)(hx:EgB w' B.x (hdC B e' u) ss (tlC B e' rv' yv'))(hf:Fm (·=B.x) w w')(hrs:RsAt w' D B e'.recs e'.met e'.saves rv' yv')(g:Gr O O' D)(hD:∀y,D y->O' y=7)(hl:∀y,D y->y<w'.heap.size)(hp:e'.phase<=2->yv'=nl)(h1:e'.s=e.s:=by rfl)(h2:e'.st=e.st:=by rfl)(h3:e'.holds=e.holds:=by rfl)(h4:e'.waits=e.waits:=by rfl)(h5:e'.txns=e.txns:=by rfl)(h6:e'.m=e.m:=by rfl)(h7:e'.nxt=e.nxt:=by rfl)(h8:e'.room=e.room:=by rfl)(h12:e'.seats=e.seats:=by rfl):RP w' O' B e' u rv' yv' ss:=by have o:=(h.keep (c:=0) (hf.mono (λy _ e=>by rw[e];exact h.x0))).wide g.old h.sl;exact⟨⟨λ_=>h1▸o.sys dC,λ_=>h2▸o.st dC,λ_=>h3▸h4▸o.lk dC,λ_=>h5▸o.tx dC,λ_=>h6▸h7▸o.id dC,λ_=>h8▸o.sp dC,λ_=>hrs.wide hD,λi s k hi=>o.se i s oM (h12▸hi),λ_=>hx⟩,λy hy=>(g.new y hy).elim (λe=>E7 (h.lt y e) hf.size) (hl y),by rw[g.old _ (by rw[h.x0];decide)];exact h.x0,h12▸h.sl,h6▸h.mo,hp,h.uo⟩
theorem RP.C4(h:RP w O B e u rv yv ss){met:List Int}(hrs:RsAt w' (O ·=7) B e.recs met e.saves rv yv)(hf:Fm (λy=>O y=7) w w'):RP w' O B { e with met:=met } u rv yv ss:=by have o:=h.keep hf;exact⟨⟨λ_=>o.sys dC,λ_=>o.st dC,λ_=>o.lk dC,λ_=>o.tx dC,λ_=>o.id dC,λ_=>o.sp dC,λ_=>hrs,λi s k hi=>o.se i s oM hi,λ_=>o.x dC⟩,λy hy=>E7 (h.lt y hy) hf.size,h.x0,h.sl,h.mo,h.ph,h.uo⟩
theorem Kw{x:Int×Pg}{u:Value}{b:Nat}(hb:w.heap[b]?=some (.cells #[iv x.1] 3)):Cl prog 136 [.agg (imC (x.1,x.2,u)).toArray,pv b] w λo w'=>o=.bool true/\Fm F0 w w':=by refine cU2 func136 ?_;refine ae ?_;rintro b1 w1 rfl hs1 hw1 hf1;simp only[RU,ab hw1,ab (hf1.heap hb id),show(imC (x.1,x.2,u))[0]?=some (iv x.1) from rfl,J1];exact hf1
theorem sY{vi:Value}{L:List (Int×Pg)}{b:Nat}(hi:ImAs w vi L)(hL:L=[]\/∃x:Int×Pg,L=[x]/\x.1=n)(hb:w.heap[b]?=some (.cells #[iv n] 3)):Cl prog 135 [vi,.func (.func 136) #[] #[pv b]] w λo w'=>o=.bool (!L.isEmpty)/\Fm F0 w w':=by
 refine cU2 func135 ?_;rcases hL with rfl|⟨x,rfl,rfl⟩
 ·refine(Lv hi _).mono ?_;rintro _ _ ⟨rfl,rfl⟩;simp only[RU,show decide ((-1:Int) ≥ 0)=false from rfl];exact⟨rfl,Fm.refl _ _⟩
 ·refine(Lw kR Kw hi hb).mono ?_;rintro _ _ ⟨rfl,hf⟩;simp only[RU,show decide ((0:Int) ≥ 0)=true from rfl];exact⟨rfl,hf⟩
theorem Held.img{P:Nat->Prop}{vs vm vi vp vt:Value}(h:Held w P (rcs r vs vm vi vp vt) r):ImAs w vi r.imgs:=by
 obtain⟨vs',vm',vi',vp',vt',e,_,_,_,hi,_⟩:=h.now.ex;have:vi=vi':=by have:=I3 (λa=>a[13]?) e;simpa[rcs] using this
 rw[this];exact hi
theorem K84:KeyT prog 84 3 4 iv:=dX underlying84 underlying3
theorem mV{n:Int}(hq:M.fetch e n=some (e',p)):∃s',e'={ e with s:=s' }:=by unfold M.fetch at hq;obtain⟨_,_,hq⟩:=bind_some hq;cases hq;exact⟨_,rfl⟩
theorem AC(h:RP w O B e u rv yv ss)(h0:e.phase=0)(hq:M.redo e=some e'):Cl prog 52 [pv B.x] w λo w'=>o=iv 0/\Ex O w B e' w':=by
 obtain⟨⟨C,Q,c1,c2,c3,c4,c5⟩,c6,⟨Mm,m1,m2⟩,m3⟩:=h.al.rs dC;have hy:=h.ph oM;unfold M.redo at hq;refine cU1 func52 ?_ (V [(9,[54])]) (J [(28,[]),(14,[]),(22,[]),(23,[11,12])]);cases hr:e.recs with
 | nil=>
  rw[hr] at hq c2;obtain⟨⟨e1,p⟩,hfe,hq⟩:=E9.1 hq;cases hq;rw[c2] at c1;simp only[RU,h.c2 3,c1.lenV,show(((([]:List Rc).length:Nat):Int) == 0)=true from rfl];refine(eI h hfe).mono ?_;rintro _ w1 ⟨v,rfl,hN,hsm,hf1,O1,h1,s1,hz⟩;obtain⟨s',rfl⟩:=mV hfe;simp only[RU];refine aF (us:=pcs p v) (λw2 hs2 hw2 hf2=>?_) rfl rfl (G8.2 (bE hN.one));have h2:=h1.aS hf2;simp only[RU,aa (n:=6) hw2 rfl];refine(h2.al.x dC).Cw (o:=10) rfl dC (bE hN.one) λw3 hx3 hs3 hf3=>?_;have hN2:=hN.keep hf2;have hbx:∀y,PgZ p v y->¬y=B.x:=λy hy e=>by have:=hz y hy;rw[e,h1.x0] at this;cases this
  obtain⟨O3,h3,g3⟩:=h2.CW (p:=p) (v:=v) hx3 hf3 (hN2.j9 hf3 hbx) hz;simp only[RU,h3.c2 2,h0];refine h3.t1 (o:=2) { e with s:=s',st:=p,phase:=1 } dC rfl rfl (λ_=>hy) (λw4 h4 hf4=>?_);have hx:∀{a b:World},Fm (·=B.x) a b->Fm (λy=>O y≠99) a b:=λf=>f.mono (λy _ e=>by rw[e,h.x0];decide);exact⟨O3,_,_,_,_,h4,s1.g.trans (g3.mono λy e=>hN.fr e.1 y e.2),((s1.trans (Stp.gT hf2)).f.trans (hx hf3) iT iT).trans (hx hf4) iT iT⟩
 | cons r l=>
  rw[hr] at hq c2 c3;obtain⟨c0,C',rfl⟩:∃c0 C',C=c0::C':=by
   cases C with
   | nil=>simp at c2
   | cons a b=>exact⟨a,b,rfl⟩
  have hH:=c3 0 c0 r rfl rfl;obtain⟨vs,vm,vi,vp,vt,rfl,hone,_⟩:=hH.now.ex;obtain⟨n,hn,hq⟩:=bind_some hq;obtain⟨_,hg,hq⟩:=bind_some hq;have hmet:=F9 (an hg);obtain⟨⟨e1,p⟩,hfe,hq⟩:=bind_some hq;obtain⟨q,hdo,hlay⟩:=bind_some hq;have hcl:C'.length=l.length:=by simpa using c2
  obtain⟨ad,k1,_,k2⟩:=c1.at (i:=0) dC sI .i64
  replace k1:ixV 16 rv (iv 0)=some (.pointer (some ad)):=k1
  have k3:aJ w ad 16=some (.agg (rcs r vs vm vi vp vt)):=aO (l:=(rcs r vs vm vi vp vt).toList) rfl λj hj=>by rw[k2 j hj,Nn,F7,G5,K4 (show j<16 from hj)]
  simp only[RU,h.c2 3,c1.lenV,show(((((rcs r vs vm vi vp vt)::C').length:Nat):Int) == 0)=false by simp;omega,k1,k3];refine aF (us:=rcs r vs vm vi vp vt) (λw1 hs1 hw1 hf1=>?_) rfl rfl (G8.2 (lY hone.1 hone.2.1 hone.2.2.1 hone.2.2.2.1 hone.2.2.2.2));have h1:=h.aS hf1;obtain⟨rv',k4,k5,k6⟩:=(c1.keep hf1 iT).lo (i:=1) sI .i64
  replace k4:slV 16 rv (some (iv 1)) none none=some rv':=k4
  replace k5:CellsAt w1 rv' C'.length 16 (C'.flatMap Array.toList):=k5
  simp only[RU,h1.c2 3,k4];have h99:O w.heap.size=99:=h.free (E4 _);refine(h1.al.x dC).stl (o:=3) dC (gY k5) λw2 hx2 hs2 hf2=>?_;have hbx7:∀y,O y=7->¬y=B.x:=λy e c=>by rw[c,h.x0] at e;cases e
  have hH2:=(hH.keep hf1 iT).keep hf2 (λy hy=>hbx7 y (c4 y hy).1);have hsv:∀wx,CellsAt wx yv e.saves.length 1 (e.saves.map iv):=λwx=>by
   cases hs:e.saves with
   | nil=>rw[hy];exact CellsAt.aT (World.ownsRow_nil wx 0 3 1)
   | cons a b=>obtain⟨_,_,hb,_⟩:=c6.1.j4 (i:=0) (x:=iv a) (by rw[hs];rfl) .i64;rw[hy] at hb;cases hb
  have h2:=h1.BY (e':={ e with recs:=l }) (rv':=rv') (yv':=yv) (D:=(O ·=7)) (O':=O) hx2 hf2 ⟨⟨C',Q,k5.keep hf2 (λy hy=>hbx7 y (c5 y (k6 y hy)).1),hcl,λi cs r' a b=>((c3 (i+1) cs r' a b).keep hf1 iT).keep hf2 (λy hy=>hbx7 y (c4 y hy).1),c4,λy hy=>c5 y (k6 y hy)⟩,⟨hsv _,c6.2⟩,⟨Mm,(m1.keep hf1 id).keep hf2 (hbx7 _ m3),m2⟩,m3⟩ (Gr.refl _ _) (λ_ e=>e) (λy e=>E7 (h1.lt y (by rw[e];decide)) hf2.size) (λ_=>hy);have hw2:=hf2.heap hw1 (by rintro e;rw[e,h.x0] at h99;cases h99);simp only[RU,aa (n:=16) hw2 rfl];have ht:=Ev hn;refine(nX hH2.img ht).mono ?_;rintro tv w3 ⟨htv,hf3⟩;have hL:r.imgs=[]\/∃x:Int×Pg,r.imgs=[x]/\x.1=n:=by
   rcases ht with e|⟨x,e⟩
   ·exact .inl e.1
   ·exact .inr ⟨x,e.1,e.2.1⟩
  simp only[RU,(CellsAt.aT htv).lenV];refine⟨λvs wx=>(vs=[iv 0]/\wx=w3)\/(vs=[iv 1]/\Ex O w B e' wx),λvs _=>(1 - nth vs 0).toNat,.inl ⟨rfl,rfl⟩,?_⟩;rintro wx t (⟨hvs,rfl⟩|⟨hvs,hX⟩)
  ·cases hvs;simp only[RU,show decide ((0:Int)<((1:Nat):Int))=true from rfl];refine aL (λvs wy=>vs=[]/\Ex O w B e' wy) ?_ ?_
   ·rintro _ wy ⟨rfl,hX⟩;simp only[RU,show IntKind.i64.wrap ((0:Int)+1)=1 from rfl];exact⟨.inr hX,by simp only[bl];decide⟩
   ·intro kk hkk;obtain⟨ad,i1,_,i3⟩:=(CellsAt.aT htv).j4 (i:=0) (x:=iv n) rfl .i64
    replace i1:ixV 1 tv (iv 0)=_:=i1
    simp only[RU,i1,i3];refine ae ?_;rintro b4 w4 rfl hs4 hw4 hf4;refine ax hw4 (j:=0) dC rfl λw5 hw5 hs5 hf5=>?_
    replace hw5:w5.heap[wx.heap.size]?=some (.cells #[iv n] 3):=hw5
    have hF5:Fm F0 w2 w5:=Fm.own (Fmf hf3 hf4) hf5 (λy e=>by have:=hf3.size;omega);have h5:=h2.aS hF5;have hH5:=hH2.keep hF5 iT;have hr5:RB w5 w.heap.size r vs vm vi vp vt:=⟨hF5.heap hw2 id⟩;simp only[RU,hr5.c13];refine(sY hH5.img hL hw5).mono ?_;rintro _ w6 ⟨rfl,hf6⟩;generalize hm':(bif r.imgs.isEmpty||decide (n∈e.met) then e.met else n::e.met)=met' at hmet hfe hdo hlay;have hF6:=Fmf hF5 hf6;have h6:=h2.aS hF6;have z3:=hf3.size;have z2:=hf2.size;have hOb:∀y,w.heap.size<=y->O y=99:=λy hy=>h.free hy;refine aL (λvs w7=>vs=[]/\RP w7 O B { e with recs:=l,met:=met' } u rv' yv ss/\Fm (·=B.mt) w6 w7) ?_ ?_
    ·rintro _ w7 ⟨rfl,h7,hf7⟩;have hd7:=Fm.drew F0 w7;have h7d:=h7.aS hd7;have hmb:∀y,w.heap.size<=y->¬y=B.mt:=λy hy e=>by have:=hOb y hy;rw[e,m3] at this;cases this
     have hb7:=hf7.heap (hf6.heap hw5 id) (hmb _ oM);have hw7:=hf7.heap (hF6.heap hw2 id) (hmb _ oM);have hH7:=((hH2.keep hF6 iT).keep hf7 (λy hy e=>(c4 y hy).2 e)).keep hd7 iT;obtain⟨_,_,⟨M7,n1,n2⟩,n3⟩:=h7d.al.rs dC;simp only[RU,h7.c2 5,ab hb7];refine ag (aZ K84 n1 n false (z:=.bool false) kR) ?_;have hin:getD M7 n=some true:=by rw[n2];exact I9 hmet
     simp only[RU,hin,okV,E1];refine ae ?_;rintro b8 w8 rfl hs8 hw8 hf8;rw[aN] at hs8 hw8 ⊢;have h8:=h7d.aS hf8;have s8:Stp O w O w8:=((((Stp.gT hf1).trans ⟨Gr.refl _ _,hf2.mono λy _ e=>by rw[e,h.x0];decide⟩).trans (Stp.gT hF6)).trans (Stp.of (Gr.refl _ _) (c:=7) dC (hf7.mono λy _ e=>by rw[e];exact m3))).trans (Stp.gT (Fmf hd7 hf8));have hw8':=hf8.heap (hd7.heap hw7 id) id;have hb8':=hf8.heap (hd7.heap hb7 id) id;have hH8:=hH7.keep hf8 iT;refine aL (λys w9=>ys=[]/\∃v O9,RP w9 O9 B e1 u rv' yv ss/\Stp O w O9 w9/\w9.heap[w7.heap.size]?=some (.cells (pcs p v) 68)/\v.oneCell'=true/\w9.heap[wx.heap.size]?=some (.cells #[iv n] 3)/\w9.heap[w.heap.size]?=some (.cells (rcs r vs vm vi vp vt) 168)/\Held w9 Q (rcs r vs vm vi vp vt) r/\(r.imgs=[]->PgN w9 0 v p/\M.smP p=true)) ?_ ?_
     ·rintro _ w9 ⟨rfl,v,O9,h9,s9,hp9,ho9,hb9,hr9,hH9,hg9⟩;have hd9:=Fm.drew F0 w9;refine⟨rfl,?_⟩;refine aL (λys wb=>∃bq vq,ys=[pv bq,iv 0]/\wb.heap[bq]?=some (.cells (pcs q vq) 68)/\PgN wb w9.drew.heap.size vq q/\Fm F0 w9 wb) ?_ ?_
      ·rintro _ wb ⟨bq,vq,rfl,hq1,hNq,hfb⟩;have hb:=h9.aS hfb;have zb:=hNq.fr;rw[aN] at zb;simp only[RU,show((0:Int) != 0)=false from rfl,ab (hfb.heap hb9 id),aa (n:=6) hq1 rfl];refine(qw hb hNq (λy hy=>h9.free (zb hy.1 y hy.2)) hlay).mono ?_;rintro _ wc ⟨rfl,hfc,Oc,uc,hc,gc⟩;simp only[RU,show((0:Int) != 0)=false from rfl];have g9:Gr O9 Oc (w.heap.size<=·):=gc.mono λy hy=>by
        rcases hy with e|e
        ·exact G3 (s9.trans (Stp.gT hfb)).f.size e
        ·exact G3 s9.f.size (zb e.1 y e.2)
       exact hkk _ _ ⟨rfl,Oc,uc,rv',yv,ss,hc,s9.g.trans g9,(s9.trans (Stp.gT hfb)).f.trans hfc iT (λy hy e=>by
        have hne:O9 y≠99:=by rcases e with e|e|e<;>(rw[e];decide)
        exact(s9.g.new y hne).elim id (λe=>oM))⟩
      ·intro kk3 hkk3;refine⟨λwx=>Fm F0 w9.drew wx,Fm.refl _ _,.agg (pcs p v),λwy hx=>?_,iv n,λwy hx=>?_,.agg (rcs r vs vm vi vp vt),λwy hx=>?_,?_⟩
       ·simp only[RU,aa (n:=6) ((Fmf hd9 hx).heap hp9 id) rfl,I2]
       ·simp only[RU,ab ((Fmf hd9 hx).heap hb9 id),I2]
       ·simp only[RU,aa (n:=16) ((Fmf hd9 hx).heap hr9 id) rfl,I2]
       ·refine GG (n:=6) (mv:=iv e1.m) (Y:=F0) (λbase w5 us uu=>∃v5,us=pcs q v5/\uu=iv 0/\PgN w5 base v5 q) (λw5 hf5=>gz ((h9.aS hd9).aS hf5)) (λw5 hf5=>?_) (λw5 hf5=>hf5) (λy e=>e.elim) ?_ ?_
        ·have hF:=Fmf hd9 hf5;have him:=(hH9.keep hF iT).img;have hD:Cl prog 137 [iv e1.m,.agg (pcs p v),iv n,.agg (rcs r vs vm vi vp vt)] w5 λo w'=>∃u,o=.tuple #[.agg (pcs q u),iv 0]/\PgN w' w5.heap.size u q/\Fm F0 w5 w':=by
          rcases hL with hi0|⟨x,hi1,hxn⟩
          ·rw[M.doRec,hi0] at hdo;obtain⟨_,hg,hdo⟩:=bind_some hdo;obtain⟨q2,hde,hdo⟩:=bind_some hdo;cases hdo;have hg:=an hg;simp only[E5,D8] at hg;obtain⟨⟨⟨g1,rfl⟩,g3⟩,g4⟩:=hg;unfold M.inL at g4;have g4:=F9 g4;exact yY ((hg9 hi0).1.keep hF) h9.mo (jk (hg9 hi0).2).1 (G3 g3 dC) him hi0 (by constructor<;>omega) g1 hde
          ·rw[M.doRec,hi1] at hdo;obtain⟨_,hg,hdo⟩:=bind_some hdo;cases hdo;have hg:=an hg;simp only[E5,D8] at hg;obtain⟨⟨rfl,g3⟩,g4⟩:=hg;unfold M.inL at g4;have g4:=F9 g4;exact DP him hi1 (by constructor<;>omega) (G3 (jk g3).2 dC)
         refine hD.mono ?_;rintro _ w6 ⟨v5,rfl,hN5,hf6⟩;exact⟨_,_,rfl,rfl,G8.2 (bE hN5.one),⟨v5,rfl,rfl,hN5⟩,hf6⟩
        ·rintro base w5 w6 us uu hb ⟨v5,e1,e2,hN5⟩ hf6;exact⟨v5,e1,e2,hN5.eQ hf6 (λy e=>e.2)⟩
        ·rintro base w6 b6 us uu hb hb2 hn hw6 ⟨v5,rfl,rfl,hN5⟩ hf6;exact hkk3 _ _ ⟨b6,v5,rfl,hw6,hN5.base hb,Fmf hd9 hf6⟩
     ·intro kk2 hkk2;rcases hL with hi0|⟨x,hi1,hxn⟩
      ·replace hfe:M.fetch { e with recs:=l,met:=met' } n=some (e1,p):=by rw[hi0] at hfe;exact hfe
       simp only[RU,hi0,List.isEmpty_nil,ab hb8'];refine(eI h8 hfe).mono ?_;rintro _ w9 ⟨v,rfl,hN,hsm,hf9,O9,h9,s9,hz9⟩;have f1:∀y,w.heap.size<=y->¬O y=1:=λy hy e=>by rw[hOb y hy] at e;cases e
       have hd8:=hd7.size;have hf7s:=hf7.size;have hf6s:=hf6.size;simp only[RU];refine aq (hf9.heap hw8 (f1 _ oM)) (λwa hwa hsa hfa=>?_) rfl rfl (G8.2 (bE hN.one));have hlsn:p.lsn<r.lsn:=by rw[M.doRec,hi0] at hdo;obtain⟨_,hg,hdo⟩:=bind_some hdo;have hg:=an hg;simp only[E5,D8] at hg;exact hg.1.1.1
       have hra:=hfa.heap (hf9.heap hw8' (f1 _ oM)) oM;simp only[RU,show((0:Int) != 0)=false from rfl,ab hwa,ab hra,show(pcs p v)[0]?=some (iv p.lsn) from rfl,show(rcs r vs vm vi vp vt)[0]?=some (iv r.lsn) from rfl,C8 (oM:¬r.lsn<=p.lsn)];have h99':O9 w7.heap.size=99:=s9.free oM (hOb _ oM);refine hkk2 _ _ ⟨rfl,v,O9,h9.iF h99' hfa,(s8.trans s9).loc hfa oM,hwa,hN.one,hfa.heap (hf9.heap hb8' (f1 _ oM)) oM,hra,(hH8.keep hf9 (λy hy e=>by rw[(c4 y hy).1] at e;cases e)).keep hfa (λy hy e=>?_),λ_=>⟨(hN.eQ hfa (λy e=>oM)).base (K3 _),hsm⟩⟩;have:=h.lt y (by rw[(c4 y hy).1];decide);omega
      ·replace hfe:e1={ e with recs:=l,met:=met' }/\p=pg0:=by rw[hi1] at hfe;cases hfe;exact⟨rfl,rfl⟩
       obtain⟨rfl,rfl⟩:=hfe;simp only[RU,hi1,List.isEmpty_cons];exact hkk2 _ _ ⟨rfl,nl,O,h8,s8,hw8,rfl,hb8',hw8',hH8,λe=>by rw[hi1] at e;cases e⟩
    ·intro kk2 hkk2;have h6c:=h6.c2 5;simp only[RU,h6c,ab (hf6.heap hw5 id)];rcases hL with hi0|⟨x,hi1,hxn⟩
     ·rw[hi0] at hm'
      replace hm':e.met=met':=hm'
      subst hm';simp only[RU,hi0,List.isEmpty_nil];exact hkk2 _ _ ⟨rfl,h6,Fm.refl _ _⟩
     ·rw[hi1] at hm';simp only[RU,hi1,List.isEmpty_cons];have hd6:=Fm.drew F0 w6;obtain⟨d1,d2,⟨M6,n1,n2⟩,n3⟩:=(h6.aS hd6).al.rs dC;obtain⟨w7,hr7,hm7,hf7,hs7⟩:=bp K84 n1 n true;refine cI hr7 ?_;obtain⟨D1,D2,D3,D4,D5,D6,D7⟩:=d1;have hf7':Fm (λy=>O y=7) w6.drew w7:=hf7.mono λy _ e=>by rw[e];exact n3
      refine hkk2 _ _ ⟨rfl,(h6.aS hd6).C4 (met:=met') ⟨⟨D1,D2,D3.keep hf7 (λy e c=>(D7 y e).2 c),D4,λi cs r' a b=>(D5 i cs r' a b).keep hf7 (λy e c=>(D6 y e).2 c),D6,D7⟩,⟨hsv _,d2.2⟩,⟨_,hm7,λn'=>?_⟩,n3⟩ hf7',hd6.trans hf7 iE iT⟩;show getD (bJ M6 n true) n'=_;rw[br,n2,<- hm'];show _=if n'∈(bif decide (n∈e.met) then e.met else n::e.met) then _ else _
      by_cases hn':n=n'
      ·subst hn';by_cases hm:n∈e.met<;>simp[hm]
      ·by_cases hm:n∈e.met<;>simp[hm,Ne.symm hn']
  ·cases hvs;simp only[RU,show decide ((1:Int)<((1:Nat):Int))=false from rfl];exact hX
end
section
variable{w w' w1 w2:World}{B:Bk}{u v rv yv rv' yv':Value}{O O' O1 O2:Nat->Nat}{e e' e1:E}{ss:List (List Value)}{i:Nat}{s:Seat}{D:Nat->Prop}{p q:Pg}{n:Int}{r:Rc}
theorem next_none:Cl prog 139 [nl] w λo w'=>o=.tuple #[iv 0,.bool false]/\w'=w:=by refine cU1 func139 ?_ (V [(3,[4,9])]);refine⟨λvs w'=>vs=[iv 0,iv 0]/\w'=w,λ_ _=>0,⟨rfl,rfl⟩,?_⟩;rintro w2 v1 v2 ⟨hvs,rfl⟩;cases hvs;simp only[RU,show decide ((0:Int)<((0:Nat):Int))=false from rfl,show decide ((0:Int)<0)=false from rfl,I2]
theorem Bu(h:RP w O B e u rv yv ss)(h1:e.phase=1):Cl prog 53 [pv B.x] w λo w'=>o=iv 0/\Ex O w B { e with phase:=2 } w':=by refine cU1 func53 ?_ (V [(1,[])]) (J [(16,[9])]);refine⟨λvs w2=>w2=w,λ_ _=>0,rfl,?_⟩;rintro w2 rfl;simp only[RU,h.c2 4];refine next_none.mono ?_;rintro _ _ ⟨rfl,rfl⟩;simp only[RU,h.c2 2,h1,show IntKind.i64.wrap ((1:Nat)+1:Int)=2 from rfl];refine h.t1 (o:=2) { e with phase:=2 } dC rfl rfl (λ_=>h.ph oM) (λw4 h4 hf4=>?_);exact h4.ex (Stp.of (Gr.refl _ _) (c:=0) dC (hf4.mono λy _ e=>by rw[e];exact h.x0))
theorem RP.h1(h:RP w O B e u rv yv ss){o:Nat}{x:Value}{k:KV}(e':E)(ho:o<23)(hx1:x.oneCell'=true)(ht:(hdC B e u).set o x=hdC B e' u)(hp:e'.phase<=2->yv=nl)(hk:∀w',RP w' O B e' u rv yv ss->Fm (·=B.x) w w'->k undef w')(hh:tlC B e rv yv=tlC B e' rv yv:=by rfl)(h1:e'.s=e.s:=by rfl)(h2:e'.st=e.st:=by rfl)(h3:e'.holds=e.holds:=by rfl)(h4:e'.waits=e.waits:=by rfl)(h5:e'.txns=e.txns:=by rfl)(h6:e'.m=e.m:=by rfl)(h7:e'.nxt=e.nxt:=by rfl)(h8:e'.room=e.room:=by rfl)(h9:e'.recs=e.recs:=by rfl)(h10:e'.met=e.met:=by rfl)(h11:e'.saves=e.saves:=by rfl)(h12:e'.seats=e.seats:=by rfl):St 1 w (.pointer (some ⟨B.x,o,none⟩)) x k:=(h.al.x dC).A0 ho hx1 λw' hx hs hf=>hk w' (h.cells (e':=e') (by rw[<- hh,<- ht];exact hx) hf h1 h2 h3 h4 h5 h6 h7 h8 h9 h10 h11 h12 hp) hf
theorem RP.sx(h:RP w O B e u rv yv ss)(hf:Fm (·=B.x) w1 w2):Stp O w1 O w2:=Stp.of (Gr.refl _ _) (c:=0) dC (hf.mono λy _ e=>by rw[e];exact h.x0)
theorem jV{n:Int}(hq:M.reserve e n=some e'):∃l,e'=M.lg e l:=by unfold M.reserve at hq;obtain⟨_,_,hq⟩:=bind_some hq;cases hq;exact⟨_,rfl⟩
theorem tW(h:RP w O B e u rv yv ss)(h4:e.phase=4)(hq:M.phaseM e=some e'):Cl prog 56 [pv B.x] w λo w'=>o=iv 0/\Ex O w B e' w':=by
 obtain⟨e,rfl⟩:∃e0:E,e={ e0 with phase:=4 }:=⟨e,by rw[<- h4]⟩;unfold M.phaseM at hq;have hd:=Fm.drew F0 w;have hdr:=h.aS hd;refine cU1 func56 ?_ (V []) (J [(10,[])]);simp only[RU,h.c2 7,h.c 20 dC];by_cases hle:e.fresh<=e.at_
 ·dsimp only at hq;rw[C9 hle,E3] at hq;obtain⟨e1,hr,hq⟩:=bind_some hq;cases hq;obtain⟨l,rfl⟩:=jV hr;simp only[RU,C9 hle,h.c 8 dC];refine(lr hdr hr).mono ?_;rintro _ w1 ⟨rfl,h1,hf1⟩;simp only[RU,show((0:Int) == 0)=true from rfl];refine h1.h1 (o:=22) { M.lg e l with kept:=true,phase:=4 } dC rfl rfl (λe=>absurd e (dC:¬(4:Nat)<=2)) λw2 h2 hf2=>?_;simp only[RU,h2.c2 2,show IntKind.i64.wrap ((4:Nat)+1:Int)=5 from rfl];refine h2.t1 (o:=2) { M.lg e l with kept:=true,phase:=5 } dC rfl rfl (λe=>absurd e (dC:¬(5:Nat)<=2)) λw3 h3 hf3=>?_;exact h3.ex ((((Stp.gT hd).trans (Stp.of (Gr.refl _ _) dC hf1)).trans (h.sx hf2)).trans (h.sx hf3))
 ·dsimp only at hq;rw[C8 hle,E1] at hq;obtain⟨_,hg,hq⟩:=bind_some hq;obtain⟨⟨e1,p⟩,hfe,hq⟩:=bind_some hq;obtain⟨_,hk,hq⟩:=bind_some hq;obtain⟨x,hr,hq⟩:=bind_some hq;cases hq;have hg:=F9 (an hg);have hk:=F9 (an hk);rw[hg] at hle;simp only[RU,C8 hle,hg,show IntKind.i64.wrap ((2:Int)+1)=3 from rfl];refine hdr.t1 (o:=7) { e with at_:=3,phase:=4 } dC rfl rfl h.ph λw1 h1 hf1=>?_;refine(eI h1 hfe).mono ?_;rintro _ w2 ⟨v,rfl,hN,hsm,hf2,O2,h2,s2,hz2⟩;simp only[RU];refine aF (us:=pcs p v) (λw3 hs3 hw3 hf3=>?_) rfl rfl (G8.2 (bE hN.one));have s3:Stp O w O2 w3:=(((Stp.gT hd).trans (h.sx hf1)).trans s2).trans (Stp.gT hf3);refine aL (λvs w4=>vs=[]/\RP w4 O2 B { e1 with room:=some x } u rv yv ss/\Stp O w O2 w4) ?_ ?_
  ·rintro _ w4 ⟨rfl,h4,s4⟩;simp only[RU];exact h4.ex s4
  ·intro kk hkk;simp only[RU,show((0:Int) == 0)=true from rfl,aa (n:=6) hw3 rfl];refine(jP (h2.aS hf3) (hN.keep hf3) (rm:=some x) (by rw[C9 hk,E3,hr];rfl)).mono ?_;rintro _ w4 ⟨rfl,h4,hf4⟩;exact hkk _ _ ⟨rfl,h4,s3.trans (Stp.of (Gr.refl _ _) (c:=6) dC (hf4.mono λy _ e=>by rw[e];exact(h4.al.sp dC).ob.2))⟩
theorem Be(h:RP w O B e u rv yv ss)(hg:e.s.d.sync.2=0):Cl prog 142 [pv B.x] w λo w'=>o=iv 0/\RP w' O B { e with s:=⟨e.s.p.synced,e.s.l,e.s.d.sync.1⟩ } u rv yv ss/\Stp O w O w':=by
 refine cU1 func142 ?_;simp only[RU,h.c 0 dC];refine bsl 2 #[.func (.func 70) #[pv B.db] #[],.func (.func 187) #[pv B.x] #[]] 126 ?_;have hfa:=Fm.alloc F0 w (.cells #[.func (.func 70) #[pv B.db] #[],.func (.func 187) #[pv B.x] #[]] 126);have hcs:CellsAt (w.alloc (.cells #[.func (.func 70) #[pv B.db] #[],.func (.func 187) #[pv B.x] #[]] 126)) (.slice (some ⟨w.heap.size,0,none⟩) 2 2) 2 1 [.func (.func 70) #[pv B.db] #[],.func (.func 187) #[pv B.x] #[]]:=CellsAt.aT (dm (w:=w) (e:=126) (sz:=1) (n:=2) (l:=[.func (.func 70) #[pv B.db] #[],.func (.func 187) #[pv B.x] #[]]) rfl (E4 _) dC);have ha:=h.aS hfa;generalize w.alloc (.cells #[.func (.func 70) #[pv B.db] #[],.func (.func 187) #[pv B.x] #[]] 126)=wa at hfa ha hcs ⊢;refine(Gh (F:=[.func (.func 70) #[pv B.db] #[],.func (.func 187) #[pv B.x] #[]]) (λi wx=>Fm (λy=>O y=1) wa wx/\match i with
  | 0=>RP wx O B e u rv yv ss
  | 1=>RP wx O B { e with s:=⟨e.s.p,e.s.l,e.s.d.sync.1⟩ } u rv yv ss
  | _=>RP wx O B { e with s:=⟨e.s.p.synced,e.s.l,e.s.d.sync.1⟩ } u rv yv ss) (dC:2<=100) ⟨Fm.refl _ _,ha⟩ (λi wx hx=>hcs.keep hx.1 (λy hy=>by cases hy;rw[h.free (E4 _)];decide)) ?_).mono ?_
 ·rintro i f wx hi ⟨hx,hR⟩ k hk
  match i,hi with
  | 0,hi=>
   cases hi
   replace hR:RP wx O B e u rv yv ss:=hR
   refine ay kR ((Bg hR.sys).mono ?_);rintro _ wy ⟨rfl,hs,hy⟩;rw[hg];exact hk _ ⟨hx.trans hy iT iT,(hR.o9 hs hy).1⟩
  | 1,hi=>
   cases hi
   replace hR:RP wx O B { e with s:=⟨e.s.p,e.s.l,e.s.d.sync.1⟩ } u rv yv ss:=hR
   refine ay kR ?_;refine cU1 func187 ?_;simp only[RU,hR.c 9 dC];refine(nV hR.sys).mono ?_;rintro _ wy ⟨hs,hy⟩;exact hk _ ⟨hx.trans hy iT iT,(hR.o9 hs hy).1⟩
 ·rintro _ wx ⟨rfl,hx,hR⟩;exact⟨rfl,hR,(Stp.gT hfa).trans (Stp.of (Gr.refl _ _) dC hx)⟩
theorem AO(h:RP w O B e u rv yv ss)(h3:e.phase=3)(hq:M.phaseM e=some e'):Cl prog 55 [pv B.x] w λo w'=>o=iv 0/\Ex O w B e' w':=by
 obtain⟨c1,c2,c3,c4⟩:=h.al.rs dC;obtain⟨e,rfl⟩:∃e0:E,e={ e0 with phase:=3 }:=⟨e,by rw[<- h3]⟩;unfold M.phaseM at hq;dsimp only at hq;refine cU1 func55 ?_;simp only[RU,h.c2 6,c2.1.lenV];cases hs:e.saves with
 | nil=>rw[hs] at hq;obtain⟨_,hg,hq⟩:=bind_some hq;cases hq;simp only[RU,show decide ((0:Int)<((([]:List Int).length:Nat):Int))=false from rfl,h.c2 2,show IntKind.i64.wrap ((3:Nat)+1:Int)=4 from rfl];refine h.t1 (o:=2) { e with phase:=4 } dC rfl rfl (λe=>absurd e (dC:¬(4:Nat)<=2)) λw1 h1 hf1=>?_;refine h1.t1 (o:=7) { e with phase:=4,at_:=2 } dC rfl rfl (λe=>absurd e (dC:¬(4:Nat)<=2)) λw2 h2 hf2=>?_;refine(Be h2 (F9 (an hg))).mono ?_;rintro _ w3 ⟨rfl,h3,s3⟩;simp only[RU];have:=h3.ex (((h.sx hf1).trans (h.sx hf2)).trans s3);rw[hs] at this;exact this
 | cons n l=>
  rw[hs] at hq;obtain⟨_,hg,hq⟩:=bind_some hq;cases hq;rw[hs] at c2;obtain⟨ad,k1,_,k2⟩:=c2.1.j4 (i:=0) (x:=iv n) rfl .i64
  replace k1:ixV 1 yv (iv 0)=_:=k1
  obtain⟨yv',k4,k5,k6⟩:=c2.1.lo (i:=1) sI .i64
  replace k4:slV 1 yv (some (iv 1)) none none=some yv':=k4
  replace k5:CellsAt w yv' l.length 1 (l.map iv):=k5
  simp only[RU,(sI:decide ((0:Int)<(((n::l).length:Nat):Int))=true),k1,k2,h.c2 6,k4];have hbx:∀y,O y=7->¬y=B.x:=λy e c=>by rw[c,h.x0] at e;cases e
  refine(h.al.x dC).stl (o:=6) dC (gY k5) λw1 hx1 hs1 hf1=>?_;have h1:=h.BY (e':={ e with saves:=l,phase:=3 }) (rv':=rv) (yv':=yv') (D:=(O ·=7)) (O':=O) hx1 hf1 ⟨by
   obtain⟨C,Q,d1,d2,d3,d4,d5⟩:=c1;exact⟨C,Q,d1.keep hf1 (λy e=>hbx y (d5 y e).1),d2,λi cs r' a b=>(d3 i cs r' a b).keep hf1 (λy e=>hbx y (d4 y e).1),d4,d5⟩,⟨k5.keep hf1 (λy e=>hbx y (c2.2 y (k6 y e))),λy e=>c2.2 y (k6 y e)⟩,by
   obtain⟨Mm,m1,m2⟩:=c3;exact⟨Mm,m1.keep hf1 (hbx _ c4),m2⟩,c4⟩ (Gr.refl _ _) (λ_ e=>e) (λy e=>E7 (h.lt y (by rw[e];decide)) hf1.size) (λe=>absurd e (dC:¬(3:Nat)<=2))
  simp only[RU,h1.c 9 dC];refine(xz h1.sys n).mono ?_;rintro _ w2 ⟨rfl,hs2,hf2⟩;simp only[RU,F9 (an hg)];exact(h1.o9 hs2 hf2).1.ex ((h.sx hf1).trans (h1.o9 hs2 hf2).2)
theorem wG(h:RP w O B e u rv yv ss)(h2:e.phase=2)(hq:M.phaseM e=some e'):Cl prog 54 [pv B.x] w λo w'=>o=iv 0/\Ex O w B e' w':=by
 obtain⟨e,rfl⟩:∃e0:E,e={ e0 with phase:=2 }:=⟨e,by rw[<- h2]⟩;obtain⟨c1,c2,c3,c4⟩:=h.al.rs dC;unfold M.phaseM at hq;dsimp only at hq;obtain⟨_,hg,hq⟩:=bind_some hq;cases hq;have hd:=Fm.drew F0 w;have hg:=an hg;simp only[E5,D8,G8] at hg;obtain rfl:=h.ph (E4 2);generalize hL:(e.s.p.owed.map (·.1)).foldr M.insI []=L at hg ⊢;have hmem:∀n,n∈L↔n∈e.s.p.owed.map (·.1):=λn=>by
  rw[<- hL];generalize e.s.p.owed.map (·.1)=l;induction l with
  | nil=>exact Iff.rfl
  | cons a l ih=>rw[List.foldr_cons,oS,ih,H2]
 have hlen:=tc L 0 8192 dC (λx hx=>hg.2 x hx) hg.1.2;have hgD:∀n,getD e.s.p.owed n=getD (L.map λn=>(n,(getD e.s.p.owed n).getD 0)) n:=λn=>by
  by_cases hn:n∈L
  ·obtain⟨k,hk,rfl⟩:=List.mem_iff_getElem.1 hn;have:=oJ (D:=L.map λn=>(n,(getD e.s.p.owed n).getD 0)) (by rw[M0];show(L.map id).Pairwise _;rw[List.map_id];exact hg.1.2) (i:=k) (x:=(L[k],(getD e.s.p.owed L[k]).getD 0)) (by rw[F8,E0 hk];rfl);rw[this];obtain⟨v,hv⟩:=Option.ne_none_iff_exists'.1 (show getD e.s.p.owed L[k]≠none from λc=>getD_none.1 c ((hmem _).1 hn));rw[hv];rfl
  ·rw[getD_none.2 (λc=>hn ((hmem _).2 c)),getD_none.2 (by rw[M0];show n∉L.map id;rw[List.map_id];exact hn)]
 refine cU1 func54 ?_ (V [(5,[43])]);simp only[RU,h.c2 7,h.c2 4,C8 (oM:¬e.at_<((0:Nat):Int)),h.c 9 dC];have hdr:=h.aS hd;obtain⟨Xl,Xp,Q,F,g1,g2⟩:=hdr.sys;refine(tz g1.hP hgD (by rw[M0];show(L.map id).Pairwise _;rw[List.map_id];exact hg.1.2) (λx hx=>by obtain⟨n,hn,rfl⟩:=G0.1 hx;exact hg.2 n hn)).mono ?_;rintro tv w1 ⟨ho,hf1⟩;rw[H5] at ho;have h1:=hdr.aS hf1;simp only[RU,(CellsAt.aT ho).lenV];refine⟨λvs w3=>∃(k:Nat) (yv':Value),vs=[iv k]/\k<=L.length/\EgB w3 B.x (hdC B e u) ss (tlC B { e with phase:=2 } rv yv')/\w3.ownsRow w1.heap.size 3 1 yv' k ((L.take k).map iv)/\Fm (·=B.x) w1 w3,λvs _=>(L.length - nth vs 0).toNat,⟨0,nl,rfl,K3 _,h1.al.x dC,World.ownsRow_nil _ _ _ _,Fm.refl _ _⟩,?_⟩;rintro w3 v1 ⟨k,yv',hvs,hk,hx3,ho3,hf3⟩;cases hvs;have hlt:=h1.lt B.x (by rw[h.x0];decide);by_cases hkl:k<L.length
 ·have e1:L[k]?=some L[k]:=E0 hkl;have et:=I1 (l:=L) (i:=k);rw[e1] at et;generalize L[k]=n at e1 et;have hbx3:B.x<w1.heap.size:=hlt;obtain⟨ad,k1,_,k2⟩:=((CellsAt.aT ho).keep hf3 (λy hy e=>by have:=fU ho hy;have:=hdr.lt B.x (by rw[h.x0];decide);omega)).at dC hkl .i64;have k3:aJ w3 ad 2=some (.agg (pc2 (n,(getD e.s.p.owed n).getD 0)).toArray):=aO (l:=pc2 (n,(getD e.s.p.owed n).getD 0)) rfl λj hj=>by rw[k2 j hj];exact dy (f:=pc2) (λ_=>rfl) (by rw[F8,e1];rfl) hj
  simp only[RU,C9 (oM:(k:Int)<(L.length:Int)),k1,k3];refine aF (us:=#[iv n,iv ((getD e.s.p.owed n).getD 0)]) (λw4 hs4 hw4 hf4=>?_) rfl rfl rfl;have hd4:=Fm.drew F0 w4;have hx4:=(hx3.keep hf4 id).keep hd4 id;refine⟨λwx=>Fm F0 w4.drew wx,Fm.refl _ _,yv',λwx hx=>?_,?_⟩
  ·simp only[RU,show wx.cell? ⟨B.x,229,none⟩=some yv' from(hx4.keep hx id).A9 (o:=6),I2]
  simp only[RU,ab hw4];refine ag (Lr n w4.drew) ⟨Fm.alloc _ _ _,?_⟩;have hfA:=Fm.alloc F0 w4.drew (.cells #[iv n] 3);have hn:=aD w4.drew (.cells #[iv n] 3);have hF:=Fmf (Fmf hf4 hd4) hfA;have z3:=hf3.size;have zF:=hF.size;obtain⟨v',w6,hr6,ho6,hf6,_⟩:=gn (P:=prog) E25 dC (ah ho3 hF (λ_ _ _ _ e=>e)) 25 ⟨w4.drew.heap.size,0,none⟩ 1 1 [iv n] rfl (λj u hj=>by rw[aC,ab hn,F7,J9];exact hj) (by intro u hu;simp at hu;subst hu;rfl) (by unfold maxLen;omega) oM oM;refine ag hr6 ?_;have hx6:=(hx4.keep hfA id).keep hf6 oM;refine hx6.stl (o:=6) dC (aA ho6) λw7 hx7 hs7 hf7=>?_;simp only[RU,show IntKind.i64.wrap ((k:Int)+1)=((k+1:Nat):Int) by rw[af]<;>omega];refine⟨⟨k+1,v',rfl,oM,hx7,?_,?_⟩,by simp only[bl];omega⟩
  ·rw[et,NH];exact ah ho6 hf7 (λy hy _ _ e=>oM)
  ·exact((hf3.trans hF iT iE).trans hf6 iT (λy hy e=>oM)).trans hf7 iT iT
 ·obtain rfl:k=L.length:=oM;rw[I5] at ho3;simp only[RU,C8 (oM:¬((L.length:Nat):Int)<(L.length:Int)),show w3.cell? ⟨B.x,225,none⟩=some (iv ((2:Nat):Int)) from hx3.A9 (o:=2),show IntKind.i64.wrap (((2:Nat):Int)+1)=3 from rfl];refine hx3.stl (o:=2) dC rfl λw4 hx4 hs4 hf4=>?_;obtain⟨O',t1,t2,t3⟩:=tag O (λy=>O y=7\/blockOf yv'=some y) 7 (λy hy=>hy.imp id (λe=>h1.free (lR ho3 e)));have hbx:∀y,O y=7->¬y=B.x:=λy e c=>by rw[c,h.x0] at e;cases e
  have hF:=hf3.trans hf4 iT iT;obtain⟨c1,c2,c3,c4⟩:=h1.al.rs dC;have ho4:=ah ho3 hf4 (λy hy _ _ e=>oM);have h4:=h1.BY (e':={ e with phase:=3,saves:=L }) (rv':=rv) (yv':=yv') (D:=λy=>O y=7\/blockOf yv'=some y) (O':=O') hx4 hF ⟨by
   obtain⟨C,Q,d1,d2,d3,d4,d5⟩:=c1;exact⟨C,Q,d1.keep hF (λy e=>hbx y (d5 y e).1),d2,λi cs r' a b=>(d3 i cs r' a b).keep hF (λy e=>hbx y (d4 y e).1),λy e=>⟨.inl (d4 y e).1,(d4 y e).2⟩,λy e=>⟨.inl (d5 y e).1,(d5 y e).2⟩⟩,⟨CellsAt.aT ho4,λy e=>.inr e⟩,by
   obtain⟨Mm,m1,m2⟩:=c3;exact⟨Mm,m1.keep hF (hbx _ c4),m2⟩,.inl c4⟩ ⟨t1,t3⟩ t2 (λy e=>e.elim (λe=>E7 (h1.lt y (by rw[e];decide)) hF.size) (λe=>(aR ho4 y (@blo yv' y yv' (bd (CellsAt.aT ho4)) e)).2)) (λe=>absurd e (dC:¬(3:Nat)<=2))
  exact h4.ex ((Stp.gT (Fmf hd hf1)).trans ⟨⟨t1,λy hy=>(t3 y hy).elim .inl λe=>e.elim (λe=>.inl (by rw[e];decide)) (λe=>.inr (lR ho3 e))⟩,hF.mono λy _ e=>by rw[e,h.x0];decide⟩)
end
section
variable{w w' w1 w2:World}{B:Bk}{u v rv yv rv' yv':Value}{O O' O1 O2:Nat->Nat}{e e' e1:E}{ss:List (List Value)}{i:Nat}{s:Seat}{n k:Int}{r:Rp}
theorem uB{P:Program}{fv:Value}{args:List Value}{w:World}{k k':KV}(h:ClV P fv args w k)(hk:∀v w',k v w'->k' v w'):ClV P fv args w k':=by
 refine⟨?_⟩;have h:=h.out;revert h;unfold ClV0;split
 ·rename_i g x y;cases ke P g
  ·exact id
  ·exact λh=>Cl.mono h hk
 ·exact id
theorem Fz{j:Nat}{f:Value}(h:phs[j]?=some f):ixG false 5 1 (.agg phs) (iv j)=some f:=by
 rw[<- h];rcases j with _|_|_|_|_|j
 ·kernel_rfl
 ·kernel_rfl
 ·kernel_rfl
 ·kernel_rfl
 ·kernel_rfl
 ·cases h
theorem xd(h:RP w O B e u rv yv ss)(hq:M.phaseM e=some e'):∃f,phs[e.phase]?=some f/\ClV prog f [pv B.x] w λo w'=>o=iv 0/\Ex O w B e' w':=by
 match hp:e.phase with
 | 0=>refine⟨_,rfl,ay kR (AC h hp ?_)⟩;unfold M.phaseM at hq;rw[hp] at hq;exact hq
 | 1=>refine⟨_,rfl,ay kR ?_⟩;unfold M.phaseM at hq;rw[hp] at hq;cases hq;exact Bu h hp
 | 2=>exact⟨_,rfl,ay kR (wG h hp hq)⟩
 | 3=>exact⟨_,rfl,ay kR (AO h hp hq)⟩
 | 4=>exact⟨_,rfl,ay kR (tW h hp hq)⟩
 | n+5=>unfold M.phaseM at hq;rw[hp] at hq;cases hq
theorem AN(h:RP w O B e u rv yv ss)(h5:e.phase≠5)(hq:M.phaseM { e with pick:=k }=some e'):Cl prog 11 [pv B.x,iv n,iv k] w λo w'=>(∃x,o=.tuple #[x,iv 0])/\Ex O w B e' w':=by
 refine cU3 func11 ?_ (V []) (J [(16,[8,9])]);simp only[RU,h.c2 0];refine h.t1 (o:=1) { e with pick:=k } dC rfl rfl h.ph λw1 h1 hf1=>?_;refine aL (λvs w2=>∃x,vs=[x,iv 0]/\Ex O w B e' w2) ?_ ?_
 ·rintro _ w2 ⟨x,rfl,hx⟩;simp only[RU,show((0:Int) != 0)=false from rfl];exact⟨⟨x,rfl⟩,hx⟩
 ·intro kk hkk;refine(eM h1).mono ?_;rintro _ w2 ⟨rfl,hf2⟩;simp only[RU,show decide (({ e with pick:=k }:E).phase=5)=false from C8 h5];have h2:=h1.aS hf2;have hd:=Fm.drew F0 w2;refine⟨λwx=>Fm F0 w2.drew wx,Fm.refl _ _,iv (e.phase:Nat),λwx hx=>?_,?_⟩
  ·simp only[RU,((h2.aS hd).aS hx).c2 2,I2]
  refine phases_spec.mono ?_;rintro _ w3 ⟨rfl,hf3⟩;obtain⟨f,hf,hc⟩:=xd ((h2.aS hd).aS hf3) hq;simp only[RU,hf3,Fz hf];refine uB hc ?_;rintro _ w4 ⟨rfl,hx⟩;exact hkk _ _ ⟨_,rfl,hx.after ((h.sx hf1).trans (Stp.gT (Fmf (Fmf hf2 hd) hf3)))⟩
theorem py(h:RP w O B e u rv yv ss)(h5:e.phase=5)(hq:M.runN e n k=some e'):Cl prog 11 [pv B.x,iv n,iv k] w λo w'=>(∃x,o=.tuple #[x,iv 0])/\Ex O w B e' w':=by
 unfold M.runN at hq;have hge:M.runnable { e with pick:=k }=M.runnable e:=rfl;cases hg:(M.runnable e)[nt (M.runnable e).length n]? with
 | none=>rw[hg] at hq;cases hq
 | some i=>
 rw[hg] at hq;have hi8:i<8:=by have:=G2 hg;unfold M.runnable at this;exact List.mem_range.1 (NS.1 this).1
 refine cU3 func11 ?_ (V []) (J [(16,[8,9])]);simp only[RU,h.c2 0];refine h.t1 (o:=1) { e with pick:=k } dC rfl rfl h.ph λw1 h1 hf1=>?_;refine aL (λvs w2=>∃x,vs=[x,iv 0]/\Ex O w B e' w2) ?_ ?_
 ·rintro _ w2 ⟨x,rfl,hx⟩;simp only[RU,show((0:Int) != 0)=false from rfl];exact⟨⟨x,rfl⟩,hx⟩
 ·intro kk hkk;refine(eM h1).mono ?_;rintro _ w2 ⟨rfl,hf2⟩;have h2:=h1.aS hf2;simp only[RU,show decide (({ e with pick:=k }:E).phase=5)=true from C9 h5];refine(pz h2 h5).mono ?_;rintro tv w3 ⟨ho,hf3⟩;rw[hge] at ho;have h3:=h2.aS hf3;have hlt:=(E6.1 hg).1;obtain⟨z1,z2,z3,z4⟩:=oT (n:=(M.runnable e).length) oM n;have hl8:(M.runnable e).length<=8:=by unfold M.runnable;exact G3 (N6 _ _) sI
  obtain⟨ad,i1,_,i3⟩:=(CellsAt.aT ho).j4 (i:=nt (M.runnable e).length n) (x:=iv i) (by rw[F8,hg];rfl) .i64;have i1':ixV 1 tv (iv (nt (M.runnable e).length n:Nat))=_:=i1;obtain⟨_,rr,pl,_,_,_,_,kc⟩:=h3.dO (h3.fF hi8);have hd:=Fm.drew F0 w3;simp only[RU,(CellsAt.aT ho).lenV,show((((M.runnable e).length:Nat):Int) == 0)=false from K2.2 oM,pn _ (oM:(0:Int)<((M.runnable e).length:Nat)),show IntKind.i64.wrap (n.tmod ((M.runnable e).length:Nat)+((M.runnable e).length:Nat))=n.tmod ((M.runnable e).length:Nat)+((M.runnable e).length:Nat) by rw[af]<;>omega,z2,i1',i3,nq hi8,kc 6 dC];refine uB (Bd (h3.aS hd) (h3.fF hi8) hq) ?_;rintro _ w4 ⟨rfl,hx⟩;exact hkk _ _ ⟨_,rfl,hx.after ((h.sx hf1).trans (Stp.gT (Fmf (Fmf hf2 hf3) hd)))⟩
theorem jH(h:RP w O B e u rv yv ss)(hi:e.seats[i]?=some s)(ht:s.told=false):Cl prog 12 [pv B.x,iv i] w λo w'=>o=.tuple #[.agg (rpC M.rp0 nl),.bool false]/\Fm F0 w w':=by have h8:=(h.dO hi).1;refine cU2 func12 ?_;refine ae ?_;rintro b1 w1 rfl hs1 hw1 hf1;have h1:=h.aS hf1;obtain⟨_,rr,pl,k0,k1,k2,k3,kc⟩:=h1.dO hi;simp only[RU,show decide ((i:Int)<0)=false from C8 oM,show decide ((8:Int)<=i)=false from C8 oM,nq h8,kc 7 dC,ht];refine bst (rpC M.rp0 nl) (aq hw1 (λw2 hw2 hs2 hf2=>?_) rfl rfl rfl);simp only[RU,aa (n:=4) hw2 rfl];exact Fm.own hf1 hf2 (λy e=>oM)
theorem RP.C1(h:RP w' O' B e1 u rv yv ss)(he:e1=e')(k:Stp O w O' w'):Ex O w B e' w':=he▸h.ex k
theorem hU(h:RP w O B e u rv yv ss)(hi:e.seats[i]?=some s)(hq:M.replyM e i=some (e',r)):Cl prog 12 [pv B.x,iv i] w λo w'=>∃rr,o=.tuple #[.agg (rpC r rr),.bool true]/\CellsAt w' rr r.rows.length 2 (r.rows.flatMap rowL)/\(∀y,blockOf rr=some y->O y≠99)/\Ex O w B e' w':=by
 have h8:=(h.dO hi).1;unfold M.replyM at hq;rw[h.at_ hi] at hq;cases ht:s.told with
 | false=>rw[ht] at hq;cases hq
 | true=>
 rw[ht,E3] at hq;cases hq;refine cU2 func12 ?_;refine ae ?_;rintro b1 w1 rfl hs1 hw1 hf1;have h1:=h.aS hf1;obtain⟨_,rr,pl,k0,k1,k2,k3,kc⟩:=h1.dO hi;simp only[RU,show decide ((i:Int)<0)=false from C8 oM,show decide ((8:Int)<=i)=false from C8 oM,nq h8,kc 7 dC,ht];have hcv:aJ w1 ⟨B.x,23+i*25+8,none⟩ 4=some (.agg (rpC s.rep rr)):=aO (l:=(rpC s.rep rr).toList) rfl λj hj=>by
  rw[aC,(oM:23+i*25+8+j=23+i*25+(8+j)),kc (8+j) (by have:j<4:=hj;omega)]
  match j,hj with
  | 0,_=>rfl
  | 1,_=>rfl
  | 2,_=>rfl
  | 3,_=>rfl
 simp only[RU,hcv];have hone:(rpC s.rep rr).toList.all Value.oneCell'=true:=by simp[gY k1];exact⟨rfl,rfl,rfl⟩
 refine aF (us:=rpC s.rep rr) (λw2 hs2 hw2 hf2=>?_) rfl rfl hone;have h2:=h1.aS hf2;refine bst (rpC M.rp0 nl) ?_;refine h2.iS (j:=7) (s':={ s with told:=false }) hi dC rfl (λ_ _=>rfl) rfl rfl λw3 ss3 h3 hf3=>?_;have hi3:=h2.bY hi { s with told:=false };obtain⟨_,rr3,pl3,q0,q1,q2,q3,_⟩:=h3.dO hi3;refine(h3.al.x dC).B1 (j:=8) (n:=4) q0 rfl dC (G8.1 (by rfl)) λw4 hx4 hs4 hf4=>?_;have hne:∀y,O y=10+i->¬y=B.x:=λy e c=>by rw[c,h.x0] at e;omega
 have h4:=h3.oF (s':={ s with told:=false,rep:=M.rp0 }) (cs':=seC i { s with told:=false,rep:=M.rp0 } nl pl3) h8 (by
  refine cast (I3 (λz=>EgB w4 B.x (hdC B e u) (ss3.set i z) (tlC B e rv yv)) ?_) hx4
  rfl) hf4 ⟨nl,pl3,rfl,CellsAt.aT (World.ownsRow_nil w4 0 23 2),(λy hy=>by cases hy),q3.keep hf4 hne⟩
 have hb0:∀y,w.heap.size<=y->¬y=B.x:=λy hy c=>by have:=h.free hy;rw[c,h.x0] at this;cases this
 have z1:=hf1.size;have F14:Fm (·=B.x) w1 w4:=(hf2.trans hf3 (λ_ _ e=>e.elim) (λ_ _ e=>e)).trans hf4 (λ_ _ e=>e) (λ_ _ e=>e);simp only[RU,aa (n:=4) (hf4.heap (hf3.heap hw2 (hb0 _ oM)) (hb0 _ oM)) rfl];refine aq (F14.heap hw1 (hb0 _ (E4 _))) (λw5 hw5 hs5 hf5=>?_) rfl rfl hone;simp only[RU,aa (n:=4) hw5 rfl];refine⟨rr,rfl,(k1.keep F14 (λy hy=>hne y (k2 y hy))).keep hf5 (λy hy e=>?_),λy hy=>by rw[k2 y hy];omega,?_⟩
 ·have:=k2 y hy;rw[e,h.free (E4 _)] at this;omega
 ·have h5:=h4.iF (h.free (E4 _)) hf5;refine h5.C1 ?_ ((Stp.gT hf1).trans (h.sx F14) |>.loc hf5 (E4 _));show({ e with seats:=(e.seats.set i _).set i _ }:E)=_;rw[Nc]
  rfl
end
open M (Ctl jw)
section
variable{w w':World}{c:Ctl}
abbrev cfC(c:Ctl):Array Value:=#[iv c.frames,iv c.m,iv c.secs,iv c.pages]
abbrev ctC(c:Ctl):Array Value:=#[iv c.frames,iv c.m,iv c.secs,iv c.pages,iv 1,iv 1,iv 0]
def fI(c:Ctl):Bool:=decide (4<=c.frames/\c.frames<=64/\16<=c.m/\c.m<=1024/\160<=c.secs/\c.secs<=4096/\4<=c.pages/\c.pages<=4096/\xZ .i64 c.m 1=0)&&decide ((jw c).length=64)&&decide (([4,4,4,4,4,6,6].foldl (λ(s:Bs×List Int) k=>(s.1.drop k,s.2++[(ofN (s.1.take k):Int)])) (jw c,[])).2=[1,c.frames,c.m,c.secs,c.pages,1,0])
theorem in_spec{a b d:Int}:Cl prog 162 [iv a,iv b,iv d] w λo w'=>o=.bool (decide (b<=a)&&decide (a<=d))/\w'=w:=by
 refine cU3 func162 ?_;by_cases h:b<=a
 ·simp only[RU,C9 h,MX,I2]
 ·simp only[RU,C8 h,MO,I2]
theorem nU(h:fI c=true):Cl prog 144 [.agg (cfC c)] w λo w'=>o=.bool true/\Fm F0 w w':=by unfold fI at h;simp only[E5,D8] at h;obtain⟨⟨⟨h1,h2,h3,h4,h5,h6,h7,h8,h9⟩,_⟩,_⟩:=h;refine cU1 func144 ?_;refine ae ?_;rintro b1 w1 rfl hs1 hw1 hf1;have cc:=λo=>ab (off:=o) hw1;simp only[RU,cc];refine in_spec.mono ?_;rintro _ _ ⟨rfl,rfl⟩;simp only[RU,C9 h1,C9 h2,Nb,cc];refine in_spec.mono ?_;rintro _ _ ⟨rfl,rfl⟩;simp only[RU,C9 h3,C9 h4,Nb,cc,show aE (.int .i64) .and (iv c.m) (iv 1)=some (iv 0) from by rw[gp,h9],show((0:Int) == 0)=true from rfl];refine in_spec.mono ?_;rintro _ _ ⟨rfl,rfl⟩;simp only[RU,C9 h5,C9 h6,Nb,cc];refine in_spec.mono ?_;rintro _ _ ⟨rfl,rfl⟩;simp only[RU,C9 h7,C9 h8,Nb];exact hf1
theorem unsound_spec:Cl prog 144 [.agg #[iv 0,iv 0,iv 0,iv 0]] w λo w'=>o=.bool false/\Fm F0 w w':=by refine cU1 func144 ?_;refine ae ?_;rintro b1 w1 rfl hs1 hw1 hf1;have cc:=λo=>ab (off:=o) hw1;simp only[RU,cc];refine in_spec.mono ?_;rintro _ _ ⟨rfl,rfl⟩;simp only[RU,show decide ((4:Int)<=0)=false from rfl,MO];exact hf1
theorem iw(h:fI c=true):Cl prog 58 [.agg (cfC c)] w λo w'=>o=.tuple #[.agg #[iv 2,iv (2+c.secs),iv (M.sectors c)],iv 0]/\Fm F0 w w':=by have hh:=h;unfold fI at hh;simp only[E5,D8] at hh;obtain⟨⟨⟨h1,h2,h3,h4,h5,h6,h7,h8,h9⟩,_⟩,_⟩:=hh;refine cU1 func58 ?_;refine ae ?_;rintro b1 w1 rfl hs1 hw1 hf1;refine ae ?_;rintro b2 w2 rfl hs2 hw2 hf2;have hw12:=hf2.heap hw1 id;simp only[RU,aa (n:=4) hw12 rfl];refine(nU h).mono ?_;rintro _ w3 ⟨rfl,hf3⟩;have hw13:=hf3.heap hw12 id;have hw23:=hf3.heap hw2 id;have cc:=λo=>ab (off:=o) hw13;simp only[RU,cc,show IntKind.i64.wrap (2+c.secs)=2+c.secs by rw[af]<;>omega];refine bst #[iv 2,iv (2+c.secs),iv 0] ?_;refine aF (us:=#[iv 2,iv (2+c.secs),iv 0]) (λw4 hs4 hw4 hf4=>?_) rfl rfl rfl;have cc:=λo=>ab (off:=o) (hf4.heap hw13 id);simp only[RU,ab hw4,cc,show IntKind.i64.wrap (8*c.pages)=8*c.pages by rw[af]<;>omega,show IntKind.i64.wrap (2+c.secs+8*c.pages)=2+c.secs+8*c.pages by rw[af]<;>omega];refine ax hw4 (j:=2) (dC:2<3) rfl λw5 hw5 hs5 hf5=>?_;have z3:=hf3.size;simp only[RU,aa (n:=3) hw5 rfl];refine aq (hf5.heap (hf4.heap hw23 id) oM) (λw6 hw6 hs6 hf6=>?_) rfl rfl rfl;simp only[RU,aa (n:=3) hw6 rfl];exact⟨rfl,Fm.own (Fm.own (Fmf (Fmf (Fmf hf1 hf2) hf3) hf4) hf5 (λy e=>by have:=hf1.size;omega)) hf6 (λy e=>oM)⟩
theorem tR(h:fI c=true):Cl prog 23 [.agg (cfC c)] w λo w'=>o=.tuple #[iv (M.sectors c),iv 0]/\Fm F0 w w':=by refine cU1 func23 ?_;refine ae ?_;rintro b1 w1 rfl hs1 hw1 hf1;simp only[RU,aa (n:=4) hw1 rfl];refine(iw h).mono ?_;rintro _ w2 ⟨rfl,hf2⟩;simp only[RU];refine aF (us:=#[iv 2,iv (2+c.secs),iv (M.sectors c)]) (λw3 hs3 hw3 hf3=>?_) rfl rfl rfl;simp only[RU,ab hw3];exact Fmf (Fmf hf1 hf2) hf3
theorem Fy{n:Nat}{cs:Array Value}{i:Nat}(h:i<n):ixG false n 1 (.agg cs) (iv i)=cs[i]? := by unfold ixG aY;dsimp only;rw[I9 ⟨oM,oM⟩,H7,J2,E1]
theorem Jf{k:World->Prop}{L:List Int}{W m:Int}{n b:Nat}{l0:Bs}(hb:Bld w b l0)(hL:∀x∈L,In x)(hn:n=L.length)(hm:m=L.length)(hlen:L.length<=8)(hsz:l0.length<=1000)(K:∀w',Bld w' b (l0++L.flatMap (eF · W))->Fm (b<=·) w w'->k w'):∃(I:LP) (μ:LN),I [iv 0] w/\∀(w2:World) (v1:Value),I [v1] w2->Pu (aE (.int .i64) .lss v1 (iv m)) λv2=>IfB v2 (Pu (ixG false n 1 (.agg (L.map iv).toArray) v1) λv=>Cl prog 159 [v,iv W] w2 λv w=>Cl prog 151 [pv b,v] w λ_ w=>Pu (aE (.int .i64) .add v1 (iv 1)) λv=>I [v] w/\μ [v] w<μ [v1] w2) (k w2):=by
 subst hn hm;refine⟨λvs w2=>∃i:Nat,vs=[iv i]/\i<=L.length/\Bld w2 b (l0++(L.take i).flatMap (eF · W))/\Fm (b<=·) w w2,λvs _=>(L.length - nth vs 0).toNat,⟨0,rfl,K3 _,by simpa using hb,Fm.refl _ _⟩,?_⟩;rintro w2 v1 ⟨i,hvs,hi,hB,hf⟩;cases hvs;have hfl:∀M:List Int,(M.flatMap (eF · W)).length<=8*M.length:=λM=>by
  induction M with
  | nil=>simp
  | cons x M ih=>rw[G5,D9,G7];have:=bN x W;omega
 by_cases hlt:i<L.length
 ·have e1:L[i]?=some L[i]:=E0 hlt;have et:=I1 (l:=L) (i:=i);rw[e1] at et;have hin:=hL L[i] (K9 hlt);generalize L[i]=x at e1 et hin;simp only[RU,C9 (oM:(i:Int)<(L.length:Int)),Fy hlt,show(L.map iv).toArray[i]?=some (iv x) by simp[e1]];refine(bA w2 hin W).mono ?_;rintro _ w3 ⟨rfl,hf3⟩;have:=hfl (L.take i);have hz:=bN x W;rw[E8] at this;refine(bW (hB.keep hf3) _ (by rw[D9];omega)).mono ?_;rintro _ w4 ⟨hB4,hf4⟩;simp only[RU,show IntKind.i64.wrap ((i:Int)+1)=((i+1:Nat):Int) by rw[af]<;>omega];exact⟨⟨i+1,rfl,hlt,by rw[et];simpa using hB4,(hf.trans hf3 iT iE).trans hf4 iT iT⟩,by simp only[bl];omega⟩
 ·obtain rfl:i=L.length:=oM;rw[I5] at hB;simp only[RU,C8 (oM:¬((L.length:Nat):Int)<(L.length:Int))];exact K w2 hB hf
theorem qh(h:fI c=true):Cl prog 72 [.agg (ctC c)] w λo w'=>o=.tuple #[stv (jw c),iv 0]/\Fm F0 w w':=by
 have hh:=h;unfold fI at hh;simp only[E5,D8] at hh;obtain⟨⟨⟨h1,h2,h3,h4,h5,h6,h7,h8,h9⟩,_⟩,_⟩:=hh;refine cU1 func72 ?_ (V [(10,[58]),(5,[46])]);refine ae ?_;rintro b1 w1 rfl hs1 hw1 hf1;simp only[RU,show aJ w1 ⟨w.heap.size,0,none⟩ 4=some (.agg (cfC c)) from aO (l:=(cfC c).toList) rfl (λj hj=>by rw[aC,ab hw1];match j,hj with|0,_=>rfl|1,_=>rfl|2,_=>rfl|3,_=>rfl)];refine(nU h).mono ?_;rintro _ w2 ⟨rfl,hf2⟩;have hw12:=hf2.heap hw1 id;have cc:=λo=>ab (off:=o) hw12;simp only[RU,cc];refine in_spec.mono ?_;rintro _ _ ⟨rfl,rfl⟩;simp only[RU,show decide ((1:Int)<=1)=true from rfl,show Int.ofNat 4294967295=4294967295 from rfl,show Int.ofNat 281474976710655=281474976710655 from rfl,show decide ((1:Int)<=4294967295)=true from rfl,Nb,cc];refine in_spec.mono ?_;rintro _ _ ⟨rfl,rfl⟩;simp only[RU,show decide ((1:Int)<=1)=true from rfl,show decide ((1:Int)<=281474976710655)=true from rfl,Nb,cc];refine in_spec.mono ?_;rintro _ w2 ⟨rfl,rfl⟩;simp only[RU,show decide ((0:Int)<=0)=true from rfl,show decide ((0:Int)<=281474976710655)=true from rfl,Nb];refine ae ?_;rintro b3 w3 rfl hs3 hw3 hf3;have cc:=λo=>ab (off:=o) (hf3.heap hw12 id);have hin:∀x∈[1,c.frames,c.m,c.secs,c.pages],In x:=λx hx=>by simp at hx;rcases hx with rfl|rfl|rfl|rfl|rfl<;>constructor<;>omega
 have hz1:=hf1.size;have hz2:=hf2.size;have hzb:=aj hw12;simp only[RU,cc];refine bst #[iv 1,iv c.frames,iv c.m,iv c.secs,iv c.pages] ?_;refine Jf (L:=[1,c.frames,c.m,c.secs,c.pages]) (W:=4) (b:=w2.heap.size) (l0:=[]) (Bld.new hw3) hin rfl rfl (dC:5<=8) dC λw4 hB4 hf4=>?_;have cc4:=λo=>ab (off:=o) (hf4.heap (hf3.heap hw12 id) oM);simp only[RU,cc4];refine bst #[iv 1,iv 0] ?_;have hl1:((([]:Bs)++[1,c.frames,c.m,c.secs,c.pages].flatMap (eF · 4)).length)<=40:=by simp only[G5,Na,D9,I0,G9];have:=bN 1 4;have:=bN c.frames 4;have:=bN c.m 4;have:=bN c.secs 4;have:=bN c.pages 4;omega
 refine Jf (L:=[1,0]) (W:=6) (b:=w2.heap.size) hB4 (λx hx=>by simp at hx;rcases hx with rfl|rfl<;>constructor<;>decide) rfl rfl dC oM λw5 hB5 hf5=>?_;have hl2:(([1,0]:List Int).flatMap (eF · 6)).length<=16:=dC;refine(bZ w5 28 dC).mono ?_;rintro _ w6 ⟨rfl,hf6⟩;refine(bW (hB5.keep hf6) _ (by rw[D9,show(az 28).length=28 from rfl];omega)).mono ?_;rintro _ w7 ⟨hB7,hf7⟩;have cc7:=λo=>ab (off:=o) (hf7.heap (hf6.heap (hf5.heap (hf4.heap (hf3.heap hw12 id) oM) oM) id) oM);simp only[RU,cc7];refine(bA w7 (show In 1 by constructor<;>decide) 4).mono ?_;rintro _ w8 ⟨rfl,hf8⟩;refine(bW (hB7.keep hf8) _ (by rw[D9,D9,show(az 28).length=28 from rfl];have:=bN 1 4;omega)).mono ?_;rintro _ w9 ⟨hB9,hf9⟩;refine(fM hB9).mono ?_;rintro _ wa ⟨rfl,_,hfa⟩;have e:∀{x y:Int},0<=x->1<=y->y<=8->eF x y=beN y.toNat x.toNat:=λ{x y} h0 h1 h8=>by
  unfold eF;rw[C8 (oM:¬y<1),C8 (oM:¬8<y),C8 (oM:¬x<0)]
  rfl
 refine⟨?_,?_⟩
 ·simp only[G5,Na,I0,G9,H1];rw[e (x:=c.frames) oM dC dC,e (x:=c.m) oM dC dC,e (x:=c.secs) oM dC dC,e (x:=c.pages) oM dC dC]
  rfl
 ·have F3:Fm (w2.heap.size<=·) w3 wa:=((((((hf4.trans hf5 iT iT).trans hf6 iT iE).trans hf7 iT iT).trans hf8 iT iE).trans hf9 iT iT)).trans hfa iT iT;exact Fm.own (Fmf (Fmf hf1 hf2) hf3) F3 (λy hy=>oM)
theorem yE:Cl prog 72 [.agg #[iv 0,iv 0,iv 0,iv 0,iv 0,iv 0,iv 0]] w λo w'=>o=.tuple #[stv [],iv 1]/\Fm F0 w w':=by refine cU1 func72 ?_ (V [(10,[58]),(5,[46])]);refine ae ?_;rintro b1 w1 rfl hs1 hw1 hf1;simp only[RU,show aJ w1 ⟨w.heap.size,0,none⟩ 4=some (.agg #[iv 0,iv 0,iv 0,iv 0]) from aO (l:=[iv 0,iv 0,iv 0,iv 0]) rfl (λj hj=>by rw[aC,ab hw1];match j,hj with|0,_=>rfl|1,_=>rfl|2,_=>rfl|3,_=>rfl)];refine unsound_spec.mono ?_;rintro _ w2 ⟨rfl,hf2⟩;simp only[RU];exact Fmf hf1 hf2
theorem GD{l:Bs}{b k:Nat}(hb:w.heap[b]?=some (.cells #[stv l] 9))(hk:k<=l.length)(hl:l.length<=1000):Cl prog 253 [iv k,pv b] w λo w'=>o=iv (ofN (l.take k):Nat)/\w'.heap[b]?=some (.cells #[stv (l.drop k)] 9)/\Fm (·=b) w w':=by refine cU2 func253 ?_;simp only[RU,ab hb,gX hk .i64];refine(dk w (l.take k) (by rw[E8];omega)).mono ?_;rintro _ _ ⟨rfl,rfl⟩;simp only[RU,ab hb,fG hk .i64];refine ax hb (j:=0) (dC:0<1) rfl λw2 hw2 hs2 hf2=>?_;exact⟨hw2,hf2⟩
theorem qf{l t:Bs}{x0 x1 x2 x3 x4 x5 x6 er place:Int}(hl:l.length=64)(hv:([4,4,4,4,4,6,6].foldl (λ(s:Bs×List Int) k=>(s.1.drop k,s.2++[(ofN (s.1.take k):Int)])) (l,[])).2=[x0,x1,x2,x3,x4,x5,x6])(hE:∀w:World,Cl prog 72 [.agg #[iv x1,iv x2,iv x3,iv x4,iv x0,iv x5,iv x6]] w λo w'=>o=.tuple #[stv t,iv er]/\Fm F0 w w')(hok:er=0->t=l/\xZ .i64 x0 1=place):Cl prog 165 [stv l,iv place] w λo w'=>o=(bif decide (er=0) then .tuple #[.agg #[iv x1,iv x2,iv x3,iv x4,iv x0,iv x5,iv x6],iv 0] else .tuple #[.agg #[iv 0,iv 0,iv 0,iv 0,iv 0,iv 0,iv 0],iv 223])/\Fm F0 w w':=by
 simp only[NT,List.foldl_nil,I0,K5,NR,and_true] at hv;obtain⟨h0,h1,h2,h3,h4,h5,h6⟩:=hv;refine cU2 func165 ?_;refine ae ?_;rintro b1 w1 rfl hs1 hw1 hf1;simp only[RU,hl,show(((64:Nat):Int) != 64)=false from rfl];refine ae ?_;rintro b2 w2 rfl hs2 hw2 hf2;refine ax hw2 (j:=0) dC rfl λw3 hw3 hs3 hf3=>?_;refine ae ?_;rintro b4 w4 rfl hs4 hw4 hf4;have tk:∀{w0:World} {t:Bs} {k:Nat} {K:KV},w0.heap[w1.heap.size]?=some (.cells #[stv t] 9)->k<=t.length->t.length<=64->(∀w',w'.heap[w1.heap.size]?=some (.cells #[stv (t.drop k)] 9)->Fm (·=w1.heap.size) w0 w'->K (iv (ofN (t.take k):Nat)) w')->ClV prog (.func (.func 253) #[] #[pv w1.heap.size]) [iv k] w0 K:=λh1 h2 h3 h4=>ay kR ((GD h1 h2 oM).mono (by rintro _ w' ⟨rfl,k1,k2⟩;exact h4 w' k1 k2));have hne:¬w3.heap.size=w1.heap.size:=oM;have l1:(l.drop 4).length=60:=by rw[H0];omega
 have l2:((l.drop 4).drop 4).length=56:=by rw[H0];omega
 have l3:(((l.drop 4).drop 4).drop 4).length=52:=by rw[H0];omega
 have l4:((((l.drop 4).drop 4).drop 4).drop 4).length=48:=by rw[H0];omega
 have l5:(((((l.drop 4).drop 4).drop 4).drop 4).drop 4).length=44:=by rw[H0];omega
 have l6:((((((l.drop 4).drop 4).drop 4).drop 4).drop 4).drop 6).length=38:=by rw[H0];omega
 refine tk (k:=4) (hf4.heap hw3 (λe=>e)) oM oM λw5 k5 hf5=>?_;rw[h0];have c5:=hf5.heap hw4 hne;simp only[RU];refine ax c5 (j:=4) (dC:4<7) rfl λw6 c6 hs6 hf6=>?_;refine tk (k:=4) (hf6.heap k5 (λe=>hne e.symm)) oM oM λw7 k7 hf7=>?_;rw[h1];refine tk (k:=4) k7 oM oM λw8 k8 hf8=>?_;rw[h2];refine tk (k:=4) k8 oM oM λw9 k9 hf9=>?_;rw[h3];refine tk (k:=4) k9 oM oM λwa ka hfa=>?_;rw[h4];refine bst #[iv x1,iv x2,iv x3,iv x4] ?_;have ca:=hfa.heap (hf9.heap (hf8.heap (hf7.heap c6 hne) hne) hne) hne;refine cr ca rfl (dC:0+4<=7) (G8.1 (by rfl)) λwb cb hsb hfb=>?_
 replace cb:wb.heap[w3.heap.size]?=some (.cells #[iv x1,iv x2,iv x3,iv x4,iv x0,iv 0,iv 0] 63):=cb
 refine tk (k:=6) (hfb.heap ka (λe=>hne e.symm)) oM oM λwc kc hfc=>?_;rw[h5];refine tk (k:=6) kc oM oM λwd kd hfd=>?_;rw[h6];have cd:=hfd.heap (hfc.heap cb hne) hne;refine ax cd (j:=5) (dC:5<7) rfl λwe ce hse hfe=>?_;refine ax ce (j:=6) (dC:6<7) rfl λwf cf hsf hff=>?_
 replace cf:wf.heap[w3.heap.size]?=some (.cells #[iv x1,iv x2,iv x3,iv x4,iv x0,iv x5,iv x6] 63):=cf
 simp only[RU,aa (n:=7) cf rfl];refine(hE wf).mono ?_;rintro _ wg ⟨rfl,hfg⟩;have cg:=hfg.heap cf (λe=>e);have z1:=hf1.size;have z2:=hf2.size;have hS:∀y,(y=w3.heap.size\/y=w1.heap.size)->w.heap.size<=y/\¬y=w.heap.size:=λy hy=>by omega
 have F4:Fm (λy=>y=w3.heap.size\/y=w1.heap.size) w4 wg:=((((((((((hf5.trans hf6 (λ_ _ e=>.inr e) (λ_ _ e=>.inl e)).trans hf7 (λ_ _ e=>e) (λ_ _ e=>.inr e)).trans hf8 (λ_ _ e=>e) (λ_ _ e=>.inr e)).trans hf9 (λ_ _ e=>e) (λ_ _ e=>.inr e)).trans hfa (λ_ _ e=>e) (λ_ _ e=>.inr e)).trans hfb (λ_ _ e=>e) (λ_ _ e=>.inl e)).trans hfc (λ_ _ e=>e) (λ_ _ e=>.inr e)).trans hfd (λ_ _ e=>e) (λ_ _ e=>.inr e)).trans hfe (λ_ _ e=>e) (λ_ _ e=>.inl e)).trans hff (λ_ _ e=>e) (λ_ _ e=>.inl e)).trans hfg (λ_ _ e=>e) (λ_ _ e=>e.elim);have w1g:=F4.heap (hf4.heap (hf3.heap (hf2.heap hw1 (λe=>e)) oM) (λe=>e)) oM;have F0g:Fm F0 w wg:=Fm.own (Fmf (Fm.own (Fmf hf1 hf2) hf3 (λy e=>oM)) hf4) F4 (λy e=>(hS y e).1);by_cases he:er=0
 ·obtain⟨rfl,hp⟩:=hok he;subst he;simp only[RU,show((0:Int) != 0)=false from rfl,ab cg,gp,hp];simp only[RU,show decide True=true from rfl,(sI:(place != place)=false),aa (n:=7) cg rfl];refine aq w1g (λwh hwh hsh hfh=>?_) rfl rfl rfl;simp only[RU,aa (n:=7) hwh rfl];exact⟨rfl,Fm.own F0g hfh (λy e=>oM)⟩
 ·simp only[RU,show(er != 0)=true from bne_iff_ne.2 he];refine bst #[iv 0,iv 0,iv 0,iv 0,iv 0,iv 0,iv 0] (aq w1g (λwh hwh hsh hfh=>?_) rfl rfl rfl);simp only[RU,aa (n:=7) hwh rfl,C8 he,E1];exact Fm.own F0g hfh (λy e=>oM)
theorem lN(h:fI c=true):Cl prog 77 [stv (az 64),stv (jw c)] w λo w'=>o=.tuple #[.agg (ctC c),iv 0]/\Fm F0 w w':=by have hh:=h;unfold fI at hh;simp only[E5,D8] at hh;obtain⟨⟨_,hl⟩,hv⟩:=hh;refine cU2 func77 ?_;refine ae ?_;rintro b1 w1 rfl hs1 hw1 hf1;refine(qf (l:=az 64) (t:=[]) (x0:=0) (x1:=0) (x2:=0) (x3:=0) (x4:=0) (x5:=0) (x6:=0) (er:=1) (place:=0) rfl dC (λw=>yE) (λe=>by cases e)).mono ?_;rintro _ w2 ⟨rfl,hf2⟩;simp only[RU,show decide ((1:Int)=0)=false from rfl,E1];refine aF (us:=#[iv 0,iv 0,iv 0,iv 0,iv 0,iv 0,iv 0]) (λw3 hs3 hw3 hf3=>?_) rfl rfl rfl;refine(qf (place:=1) (er:=0) hl hv (λw=>qh h) (λ_=>⟨rfl,kR⟩)).mono ?_;rintro _ w4 ⟨rfl,hf4⟩;simp only[RU,show decide True=true from rfl,E3];refine aF (us:=ctC c) (λw5 hs5 hw5 hf5=>?_) rfl rfl rfl;simp only[RU,show((0:Int) == 0)=true from rfl,show((223:Int) != 0)=true from rfl];simp only[RU,aa (n:=7) hw5 rfl];have F5:=Fmf (Fmf (Fmf hf2 hf3) hf4) hf5;refine aq (F5.heap hw1 id) (λw6 hw6 hs6 hf6=>?_) rfl rfl rfl;simp only[RU,aa (n:=7) hw6 rfl];exact Fm.own (Fmf hf1 F5) hf6 (λy e=>oM)
theorem okA:fI M.ctlA=true:=kR
theorem okP:fI M.ctlP=true:=kR
end
open M (Ctl findX findP lQ zS xBefore xAdd)
section
variable{w w':World}{c:Ctl}{rv vs vm vi vp vt:Value}{rs:List Rc}{r:Rc}{m:Int}
def RcL(w:World)(rv:Value)(rs:List Rc):Prop:=∃(C:List (Array Value)) (Q:Nat->Prop),CellsAt w rv C.length 16 (C.flatMap Array.toList)/\C.length=rs.length/\∀(i:Nat) cs r,C[i]?=some cs->rs[i]?=some r->Held w Q cs r
theorem RcL.keep(h:RcL w rv rs)(hf:Fm F0 w w'):RcL w' rv rs:=by obtain⟨C,Q,h1,h2,h3⟩:=h;exact⟨C,Q,h1.keep hf iT,h2,λi cs r a b=>(h3 i cs r a b).keep hf iT⟩
theorem RcL.len(h:RcL w rv rs):lenV rv=some (iv (rs.length:Nat)):=by obtain⟨C,Q,h1,h2,h3⟩:=h;rw[h1.lenV,h2]
theorem RcL.le(h:RcL w rv rs):rs.length<=9223372036854775807:=by obtain⟨C,Q,⟨⟨a,c,_,h1,h2,_⟩,_⟩,h3,_⟩:=h;unfold maxLen at h2;omega
theorem DV:∀{C:List (Array Value)} {i j:Nat} {cs:Array Value},(∀c∈C,c.size=16)->C[i]?=some cs->j<16->(C.flatMap Array.toList)[i*16+j]?=cs.toList[j]?
 | [],i,j,cs,_,hi,_=>by simp at hi
 | a::C,0,j,cs,h,hi,hj=>by simp at hi;subst hi;rw[G5,Nn,F7,K4 (by have:=h a MQ;simpa[this] using hj)]
 | a::C,i+1,j,cs,h,hi,hj=>by
  have e:a.toList.length=16:=by have:=h a MQ;simpa using this
  rw[G5,J3 oM,e,(oM:(i+1)*16+j - 16=i*16+j)];exact DV (λc hc=>h c (ML _ hc)) (by simpa using hi) hj
theorem RcL.ld(h:RcL w rv rs){i:Nat}(hi:rs[i]?=some r):∃ad vs vm vi vp vt,ixV 16 rv (iv i)=some (.pointer (some ad))/\(rcs r vs vm vi vp vt).toList.all Value.oneCell'=true/\∀w',Fm F0 w w'->aJ w' ad 16=some (.agg (rcs r vs vm vi vp vt))/\ImAs w' vi r.imgs:=by
 obtain⟨C,Q,h1,h2,h3⟩:=h;have hl:=(E6.1 hi).1;have hc:C[i]?=some C[i]:=E0 oM;have hsz:∀c∈C,c.size=16:=λc hc=>by obtain⟨j,hj,rfl⟩:=List.mem_iff_getElem.1 hc;obtain⟨_,_,_,_,_,e,_⟩:=(h3 j C[j] (rs[j]'oM) (E0 hj) (E0 _)).now.ex;rw[e];rfl
 obtain⟨ad,k1,_,k2⟩:=h1.at (i:=i) dC oM .i64;have hH:=h3 i _ r hc hi;generalize C[i]=cs at hc hH;obtain⟨vs,vm,vi,vp,vt,rfl,ho,_⟩:=hH.now.ex;refine⟨ad,vs,vm,vi,vp,vt,k1,G8.2 (lY ho.1 ho.2.1 ho.2.2.1 ho.2.2.2.1 ho.2.2.2.2),λw' hf=>⟨aO (l:=(rcs r vs vm vi vp vt).toList) rfl λj hj=>?_,(hH.keep hf iT).img⟩⟩;have hj:j<16:=hj;have hu:(rcs r vs vm vi vp vt).toList[j]?=some ((rcs r vs vm vi vp vt).toList[j]'hj):=E0 _;rw[hu];exact hf.j8 (by rw[k2 j hj,DV hsz hc hj,hu]) id
theorem mine_spec:Cl prog 174 [.agg (rcs r vs vm vi vp vt)] w λo w'=>o=.bool (zS r)/\Fm F0 w w':=by
 refine cU1 func174 ?_ (V []) (J [(7,[5])]);refine ae ?_;rintro b1 w1 rfl hs1 hw1 hf1;have hb:RB w1 w.heap.size r vs vm vi vp vt:=⟨hw1⟩;simp only[RU,hb.c3];refine aL (λvs w3=>vs=[.bool (decide (r.kind=1)||decide (r.kind=2)||decide (r.kind=6)||decide (r.kind=7)||decide (r.kind=8))]/\w3=w1) ?_ ?_
 ·rintro _ _ ⟨rfl,rfl⟩;unfold zS;cases(decide (r.kind=1)||decide (r.kind=2)||decide (r.kind=6)||decide (r.kind=7)||decide (r.kind=8))<;>simp only[RU,hb.c4,MX,MO]<;>exact hf1
 ·intro kk hkk;have b:∀k:Int,(r.kind == k)=decide (r.kind=k):=λk=>rfl;have hkk:=hkk _ _ ⟨rfl,rfl⟩;simp only[RU,b];revert hkk;cases decide (r.kind=1)<;>cases decide (r.kind=2)<;>cases decide (r.kind=6)<;>cases decide (r.kind=7)<;>simp only[RU]<;>exact id
theorem KF{b1:Nat}(hb:w.heap[b1]?=some (.cells (ctC c) 63)):Cl prog 173 [.agg (rcs r vs vm vi vp vt),pv b1] w λo w'=>o=.bool false/\Fm F0 w w':=by refine cU2 func173 ?_;refine ae ?_;rintro b2 w1 rfl hs1 hw1 hf1;simp only[RU,ab (hf1.heap hb id),show decide ((0:Int)<0)=false from rfl];exact hf1
theorem FH(h:RcL w rv rs){b1:Nat}(hb:w.heap[b1]?=some (.cells (ctC c) 63)):Cl prog 172 [rv,.func (.func 173) #[] #[pv b1]] w λo w'=>o=iv (-1)/\Fm F0 w w':=by
 refine cU2 func172 ?_ (V [(2,[8])]);simp only[RU,h.len];refine⟨λvs w2=>∃i:Nat,vs=[iv i]/\i<=rs.length/\Fm F0 w w2,λvs _=>(rs.length - nth vs 0).toNat,⟨0,rfl,K3 _,Fm.refl _ _⟩,?_⟩;rintro w2 v1 ⟨i,hvs,hi,hf⟩;cases hvs;by_cases hlt:i<rs.length
 ·obtain⟨ad,vs,vm,vi,vp,vt,k1,_,k2⟩:=h.ld (E0 hlt);have k2:=(k2 _ hf).1;simp only[RU,C9 (oM:(i:Int)<(rs.length:Int)),k1,k2];refine ay kR ((KF (hf.heap hb id)).mono ?_);rintro _ w3 ⟨rfl,hf3⟩;simp only[RU,show IntKind.i64.wrap ((i:Int)+1)=((i+1:Nat):Int) by have:=h.le;rw[af]<;>omega];exact⟨⟨i+1,rfl,hlt,Fmf hf hf3⟩,by simp only[bl];omega⟩
 ·obtain rfl:i=rs.length:=oM;simp only[RU,C8 (oM:¬((rs.length:Nat):Int)<(rs.length:Int))];exact hf
abbrev fC(x p:Int):Array Value:=#[iv 1,iv x,iv p,iv 1,nl,iv 0]
theorem mY(m:Int)(r:Rc):∀(l:List Rc) (x:Int),findX m (l++[r]) x=bif zS r&&!(xBefore m r.xid (findX m l x)) then xAdd m r.xid 1 else findX m l x
 | [],_=>rfl
 | a::l,x=>mY m r l _
theorem mX(r:Rc):∀(l:List Rc) (x:Int),findP (l++[r]) x=r.imgs.foldl (λn x=>bif decide (n<x.1+1) then x.1+1 else n) (findP l x)
 | [],_=>rfl
 | a::l,x=>mX r l _
theorem nA(r:Rc):∀(l:List Rc) (x:List (Int×Int)),lQ (l++[r]) x=lQ [r] (lQ l x)
 | [],_=>rfl
 | a::l,x=>nA r l _
theorem Ip(p x:Int):max p x=bif decide (p<x) then x else p:=by
 by_cases h:p<x
 ·rw[C9 h,E3];omega
 ·rw[C8 h,E1];omega
theorem ImAs.le{v:Value}{L:List (Int×Pg)}(h:ImAs w v L):L.length<=9223372036854775807:=by obtain⟨X,h1,⟨⟨a,c,_,h2,h3,_⟩,_⟩,_⟩:=h.ex;rw[<- h1,H5];unfold maxLen at h3;omega
theorem zn(hm:Mo m)(h:RcL w rv rs)(h0:(lQ rs []).isEmpty=true)(hk:∀r∈rs,r.kind≠11/\∀x∈r.imgs,0<=x.1/\x.1<=65535):Cl prog 79 [iv m,.agg (ctC c),rv] w λo w'=>o=.agg (fC (findX m rs 1) (findP rs 2))/\Fm F0 w w':=by
 have hle:=h.le;refine cU3 func79 ?_ (V [(14,[73]),(42,[153]),(27,[108]),(9,[50])]) (J [(8,[8]),(23,[]),(13,[]),(18,[]),(40,[]),(32,[]),(37,[135])]);refine ae ?_;rintro b1 w1 rfl hs1 hw1 hf1;refine ae ?_;rintro b2 w2 rfl hs2 hw2 hf2;have hw12:=hf2.heap hw1 (λe=>e);simp only[RU,ab hw12];refine bst (fC 1 2) ?_;refine aF (us:=fC 1 2) (λw3 hs3 hw3 hf3=>?_) rfl rfl rfl;have hF3:=Fmf (Fmf hf1 hf2) hf3;refine aL (λvs w4=>vs=[rv]/\Fm F0 w3 w4) ?_ ?_
 ·rintro _ w4 ⟨rfl,hf4⟩;simp only[RU,h.len];refine⟨λvs w5=>∃k:Nat,vs=[iv k]/\k<=rs.length/\w5.heap[w2.heap.size]?=some (.cells (fC (findX m (rs.take k) 1) (findP (rs.take k) 2)) 154)/\Fm (·=w2.heap.size) w4 w5,λvs _=>(rs.length - nth vs 0).toNat,⟨0,rfl,K3 _,hf4.heap hw3 (λe=>e),Fm.refl _ _⟩,?_⟩;rintro w5 v1 ⟨k,hvs,hkl,hb5,hf5⟩;cases hvs;have hz2:w.heap.size<=w2.heap.size:=(Fmf hf1 hf2).size;have hF5:Fm F0 w w5:=Fm.own (Fmf hF3 hf4) hf5 (λy e=>oM);by_cases hlt:k<rs.length
  ·have e1:rs[k]?=some rs[k]:=E0 hlt;have et:=I1 (l:=rs) (i:=k);rw[e1] at et;have hkr:=hk rs[k] (K9 hlt);generalize rs[k]=r at e1 et hkr;obtain⟨ad,vs,vm,vi,vp,vt,k1,hone,kf⟩:=h.ld e1;have k2:=(kf _ hF5).1;simp only[RU,C9 (oM:(k:Int)<(rs.length:Int)),k1,k2];refine aL (λvs w6=>vs=[]/\w6.heap[w2.heap.size]?=some (.cells (fC (findX m (rs.take (k+1)) 1) (findP (rs.take (k+1)) 2)) 154)/\Fm (·=w2.heap.size) w4 w6) ?_ ?_
   ·rintro _ w6 ⟨rfl,hb6,hf6⟩;simp only[RU,show IntKind.i64.wrap ((k:Int)+1)=((k+1:Nat):Int) by rw[af]<;>omega];exact⟨⟨k+1,rfl,hlt,hb6,hf6⟩,by simp only[bl];omega⟩
   ·intro kk hkk;rw[et,show(some r).toList=[r] from rfl,mY,mX] at hkk;generalize findX m (rs.take k) 1=x at hb5 hkk;generalize findP (rs.take k) 2=p at hb5 hkk;refine aF (us:=rcs r vs vm vi vp vt) (λw6 hs6 hw6 hf6=>?_) rfl rfl hone;have hb6:=hf6.heap hb5 (λe=>e);have z5:=hf5.size;have z4:=hf4.size;refine aL (λvs w7=>vs=[]/\w7.heap[w2.heap.size]?=some (.cells (fC (bif zS r&&!(xBefore m r.xid x) then xAdd m r.xid 1 else x) p) 154)/\Fm (·=w2.heap.size) w6 w7) ?_ ?_
    ·rintro _ w7 ⟨rfl,hb7,hf7⟩;generalize (bif zS r&&!(xBefore m r.xid x) then xAdd m r.xid 1 else x)=x' at hb7 hkk;have hR7:RB w7 w5.heap.size r vs vm vi vp vt:=⟨hf7.heap hw6 oM⟩;have hF7:Fm (·=w2.heap.size) w4 w7:=(hf5.trans hf6 (λ_ _ e=>e) (λ_ _ e=>e.elim)).trans hf7 (λ_ _ e=>e) (λ_ _ e=>e);have hF70:Fm F0 w w7:=Fm.own (Fmf hF3 hf4) hF7 (λy e=>oM);simp only[RU,hR7.c13,(kf _ hF70).2.lenV];refine⟨λvs w8=>∃j:Nat,vs=[iv j]/\j<=r.imgs.length/\w8.heap[w2.heap.size]?=some (.cells (fC x' ((r.imgs.take j).foldl (λn x=>bif decide (n<x.1+1) then x.1+1 else n) p)) 154)/\Fm (·=w2.heap.size) w7 w8,λvs _=>(r.imgs.length - nth vs 0).toNat,⟨0,rfl,K3 _,hb7,Fm.refl _ _⟩,?_⟩;rintro w8 v2 ⟨j,hvs,hjl,hb8,hf8⟩;cases hvs;have hF8:=hF7.trans hf8 (λ_ _ e=>e) (λ_ _ e=>e);have hF80:Fm F0 w w8:=Fm.own (Fmf hF3 hf4) hF8 (λy e=>oM);have hR8:RB w8 w5.heap.size r vs vm vi vp vt:=hR7.keep hf8 oM;by_cases hjlt:j<r.imgs.length
     ·have e2:r.imgs[j]?=some r.imgs[j]:=E0 hjlt;have et2:=I1 (l:=r.imgs) (i:=j);rw[e2] at et2;have hx:=hkr.2 r.imgs[j] (K9 hjlt);generalize r.imgs[j]=g at e2 et2 hx;obtain⟨ad2,uu,q1,q2,q3,_⟩:=(kf _ hF80).2.ld e2;simp only[RU,C9 (oM:(j:Int)<(r.imgs.length:Int)),q1,q2];refine aL (λvs w9=>vs=[]/\w9.heap[w2.heap.size]?=some (.cells (fC x' ((r.imgs.take (j+1)).foldl (λn x=>bif decide (n<x.1+1) then x.1+1 else n) p)) 154)/\Fm (·=w2.heap.size) w7 w9) ?_ ?_
      ·rintro _ w9 ⟨rfl,hb9,hf9⟩;simp only[RU,show IntKind.i64.wrap ((j:Int)+1)=((j+1:Nat):Int) by have:=(kf _ hF80).2.le;rw[af]<;>omega];exact⟨⟨j+1,rfl,hjlt,hb9,hf9⟩,by simp only[bl];omega⟩
      ·intro kk3 hkk3;rw[et2,show(some g).toList=[g] from rfl,NZ,NT,List.foldl_nil] at hkk3;refine aF (us:=(imC (g.1,g.2,uu)).toArray) (λw9 hs9 hw9 hf9=>?_) rfl rfl (G8.2 (ta q3));generalize (r.imgs.take j).foldl (λn x=>bif decide (n<x.1+1) then x.1+1 else n) p=p' at hb8 hkk3;have hb9:=hf9.heap hb8 (λe=>e);simp only[RU,ab hw9,show(imC (g.1,g.2,uu))[0]?=some (iv g.1) from rfl,C9 hx.2,ab hb9,show IntKind.i64.wrap (g.1+1)=g.1+1 by rw[af]<;>omega];simp only[RU,mx2];refine ax hb9 (j:=2) (dC:2<6) rfl λwa hwa hsa hfa=>?_;refine hkk3 _ _ ⟨rfl,?_,(hf8.trans hf9 (λ_ _ e=>e) (λ_ _ e=>e.elim)).trans hfa (λ_ _ e=>e) (λ_ _ e=>e)⟩;rw[hwa,<- Ip]
       rfl
     ·obtain rfl:j=r.imgs.length:=oM;rw[I5] at hb8;simp only[RU,C8 (oM:¬((r.imgs.length:Nat):Int)<(r.imgs.length:Int)),hR8.c3,show(r.kind != 11)=true from bne_iff_ne.2 hkr.1];exact hkk _ _ ⟨rfl,hb8,hF8⟩
    ·intro kk2 hkk2;have hR6:RB w6 w5.heap.size r vs vm vi vp vt:=⟨hw6⟩;have cb:=λo=>ab (off:=o) hb6;simp only[RU,hR6.all];refine mine_spec.mono ?_;rintro _ w7 ⟨rfl,hf7⟩;have hb7:=hf7.heap hb6 (λe=>e);have hR7:=hR6.keep hf7 (λe=>e);have up:∀{a b:World},Fm F0 a b->Fm (·=w2.heap.size) a b:=λf=>f.mono (λ_ _ e=>e.elim);cases hmi:zS r with
     | false=>rw[hmi] at hkk2;simp only[RU];exact hkk2 _ _ ⟨rfl,hb7,up hf7⟩
     | true=>
      rw[hmi] at hkk2;simp only[RU,hR7.c4,ab hb7];refine(kQ hm _ _).mono ?_;rintro _ w8 ⟨rfl,hf8⟩;have hb8:=hf8.heap hb7 (λe=>e);cases hbf:xBefore m r.xid x with
      | true=>rw[hbf] at hkk2;simp only[RU];exact hkk2 _ _ ⟨rfl,hb8,up (Fmf hf7 hf8)⟩
      | false=>rw[hbf] at hkk2;simp only[RU,(hR7.keep hf8 (λe=>e)).c4];refine(kj hm _ _).mono ?_;rintro _ w9 ⟨rfl,hf9⟩;refine ax (hf9.heap hb8 (λe=>e)) (j:=1) (dC:1<6) rfl λwa hwa hsa hfa=>?_;exact hkk2 _ _ ⟨rfl,hwa,(up (Fmf (Fmf hf7 hf8) hf9)).trans hfa (λ_ _ e=>e) (λ_ _ e=>e)⟩
  ·obtain rfl:k=rs.length:=oM;rw[I5] at hb5;simp only[RU,C8 (oM:¬((rs.length:Nat):Int)<(rs.length:Int))];refine ag (bk _ _) (ag (bk _ _) ?_);have f1:=Fm.alloc F0 w5 (.map #[] 0);have f2:=Fm.alloc F0 (w5.alloc (.map #[] 0)) (.map #[] 0);have m1:=(MapAt.empty w5 iv Value.agg).keep f2 (λe=>e);have m2:=MapAt.empty (w5.alloc (.map #[] 0)) iv iv;have hxs:(w5.alloc (.map #[] 0)).heap.size=w5.heap.size+1:=aG _ _;rw[hxs] at m2;have hb6:=(Fmf f1 f2).heap hb5 (λe=>e);have hF6:=Fmf hF5 (Fmf f1 f2);have hG6:Fm (w2.heap.size<=·) w2 ((w5.alloc (.map #[] 0)).alloc (.map #[] 0)):=((Fmf hf3 hf4).trans hf5 (λ_ _ e=>e.elim) (λy _ e=>oM)).trans (Fmf f1 f2) (λ_ _ e=>e) (λ_ _ e=>e.elim);rw[hxs];generalize (w5.alloc (.map #[] 0)).alloc (.map #[] 0)=w6 at m1 m2 hb6 hF6 hG6 ⊢;have hz5:w2.heap.size<w5.heap.size:=aj hb5;generalize hx5:w5.heap.size=x1 at m1 m2 hz5 ⊢;refine⟨λvs w7=>∃(k:Nat) (D:List (Int×Array Value)),vs=[iv k]/\k<=rs.length/\MapAt w7 x1 iv Value.agg D/\(∀k cs,getD D k=some cs->cs.size=16/\cs.toList.all Value.oneCell'=true)/\MapAt w7 (x1+1) iv iv (lQ (rs.take k) [])/\Fm (λy=>y=x1\/y=x1+1) w6 w7,λvs _=>(rs.length - nth vs 0).toNat,⟨0,[],rfl,K3 _,m1,λk cs e=>(by cases e),m2,Fm.refl _ _⟩,?_⟩;rintro w7 v2 ⟨k,D,hvs,hkl,n1,n2,n3,hf7⟩;cases hvs;have hF7:Fm F0 w w7:=Fm.own hF6 hf7 (λy e=>oM);by_cases hlt:k<rs.length
   ·have e1:rs[k]?=some rs[k]:=E0 hlt;have et:=I1 (l:=rs) (i:=k);rw[e1] at et;generalize rs[k]=r at e1 et;obtain⟨ad,vs,vm,vi,vp,vt,k1,hone,kf⟩:=h.ld e1;have k2:=(kf _ hF7).1;simp only[RU,C9 (oM:(k:Int)<(rs.length:Int)),k1,k2];refine aL (λvs w8=>vs=[]/\∃D:List (Int×Array Value),MapAt w8 x1 iv Value.agg D/\(∀k cs,getD D k=some cs->cs.size=16/\cs.toList.all Value.oneCell'=true)/\MapAt w8 (x1+1) iv iv (lQ (rs.take (k+1)) [])/\Fm (λy=>y=x1\/y=x1+1) w6 w8) ?_ ?_
    ·rintro _ w8 ⟨rfl,D',d1,d2,d3,hf8⟩;simp only[RU,show IntKind.i64.wrap ((k:Int)+1)=((k+1:Nat):Int) by rw[af]<;>omega];exact⟨⟨k+1,D',rfl,hlt,d1,d2,d3,hf8⟩,by simp only[bl];omega⟩
    ·intro kk hkk;rw[et,show(some r).toList=[r] from rfl,nA] at hkk;generalize lQ (rs.take k) []=L at n3 hkk;refine aF (us:=rcs r vs vm vi vp vt) (λw8 hs8 hw8 hf8=>?_) rfl rfl hone;have hR8:RB w8 w7.heap.size r vs vm vi vp vt:=⟨hw8⟩;have hx7:=n3.lt;simp only[RU,hR8.c0];refine aL (λys w9=>ys=[]/\∃D:List (Int×Array Value),MapAt w9 x1 iv Value.agg D/\(∀k cs,getD D k=some cs->cs.size=16/\cs.toList.all Value.oneCell'=true)/\MapAt w9 (x1+1) iv iv L/\RB w9 w7.heap.size r vs vm vi vp vt/\Fm (λy=>y=x1\/y=x1+1) w6 w9) ?_ ?_
     ·rintro _ w9 ⟨rfl,D',d1,d2,d3,hR9,hf9⟩;simp only[RU,hR9.all];refine mine_spec.mono ?_;rintro _ wa ⟨rfl,hfa⟩;have hRa:=hR9.keep hfa (λe=>e);have d1:=d1.keep hfa (λe=>e);have d3:=d3.keep hfa (λe=>e);have hF9:=hf9.trans hfa (λ_ _ e=>e) (λ_ _ e=>e.elim);have hop:lQ [r] L=bif !(zS r) then L else bif decide (r.kind=7)||decide (r.kind=8) then bQ L r.xid else bJ L r.xid (bif decide (r.kind=6) then r.next else r.lsn):=rfl
      rw[hop] at hkk;cases hmi:zS r with
      | false=>rw[hmi] at hkk;simp only[RU];exact hkk _ _ ⟨rfl,D',d1,d2,d3,hF9⟩
      | true=>
       rw[hmi,MY,E1] at hkk;simp only[RU,hRa.c3];refine aL (λvs wb=>vs=[.bool (decide (r.kind=7)||decide (r.kind=8))]/\wb=wa) ?_ ?_
       ·rintro _ wa ⟨rfl,rfl⟩;cases hk78:(decide (r.kind=7)||decide (r.kind=8)) with
        | true=>rw[hk78,E3] at hkk;simp only[RU,hRa.c4];obtain⟨wb,hrb,hmb,hfb,_⟩:=eG K275 d3 r.xid 0 3;refine ag hrb ?_;exact hkk _ _ ⟨rfl,D',d1.keep hfb oM,d2,hmb,hF9.trans hfb (λ_ _ e=>e) (λ_ _ e=>.inr e)⟩
        | false=>
         rw[hk78,E1] at hkk;have b6:(r.kind == 6)=decide (r.kind=6):=rfl;simp only[RU,b6];cases hk6:decide (r.kind=6) with
         | true=>
          rw[hk6,E3] at hkk;simp only[RU,hRa.c4,hRa.c2];obtain⟨wb,hrb,hmb,hfb,_⟩:=bp K275 d3 r.xid r.next
          refine cI hrb ?_;exact hkk _ _ ⟨rfl,D',d1.keep hfb oM,d2,hmb,hF9.trans hfb (λ_ _ e=>e) (λ_ _ e=>.inr e)⟩
         | false=>rw[hk6,E1] at hkk;simp only[RU,hRa.c4,hRa.c0];obtain⟨wb,hrb,hmb,hfb,_⟩:=bp K275 d3 r.xid r.lsn;refine cI hrb ?_;exact hkk _ _ ⟨rfl,D',d1.keep hfb oM,d2,hmb,hF9.trans hfb (λ_ _ e=>e) (λ_ _ e=>.inr e)⟩
       ·intro kk2 hkk2;have b:∀k:Int,(r.kind == k)=decide (r.kind=k):=λk=>rfl;have hkk2:=hkk2 _ _ ⟨rfl,rfl⟩;simp only[RU,b];revert hkk2;cases decide (r.kind=7)<;>simp only[RU]<;>exact id
     ·intro kk2 hkk2;have m8:=n1.keep hf8 (λe=>e);have l8:=n3.keep hf8 (λe=>e);have hF8:=hf7.trans hf8 (λ_ _ e=>e) (λ_ _ e=>e.elim);refine ag (aZ He m8 r.lsn true (z28 _)) ?_;cases hg:getD D r.lsn with
      | some cs=>obtain⟨q1,q2⟩:=n2 _ _ hg;simp only[RU,okV,E3];refine aF (us:=cs) (λw9 hs9 hw9 hf9=>?_) q1 rfl q2;exact hkk2 _ _ ⟨rfl,D,m8.keep hf9 (λe=>e),n2,l8.keep hf9 (λe=>e),hR8.keep hf9 (λe=>e),hF8.trans hf9 (λ_ _ e=>e) (λ_ _ e=>e.elim)⟩
      | none=>
       simp only[RU,okV,E3];refine aF (us:=rcs rc0 nl nl nl nl nl) (λw9 hs9 hw9 hf9=>?_) rfl rfl rfl;have hR9:=hR8.keep hf9 (λe=>e);simp only[RU,hR9.c0,hR9.all];obtain⟨wa,hra,hma,hfa,_⟩:=bp He (m8.keep hf9 (λe=>e)) r.lsn (rcs r vs vm vi vp vt);refine cI hra ?_;refine hkk2 _ _ ⟨rfl,_,hma,λk cs hk=>?_,(l8.keep hf9 (λe=>e)).keep hfa oM,hR9.keep hfa oM,(hF8.trans hf9 (λ_ _ e=>e) (λ_ _ e=>e.elim)).trans hfa (λ_ _ e=>e) (λ_ _ e=>.inl e)⟩;rw[br] at hk;by_cases he:k=r.lsn
       ·rw[I9 he] at hk;cases hk;exact⟨rfl,hone⟩
       ·rw[I8 he] at hk;exact n2 _ _ hk
   ·obtain rfl:k=rs.length:=oM;rw[I5] at n3;simp only[RU,C8 (oM:¬((rs.length:Nat):Int)<(rs.length:Int))];rw[List.isEmpty_iff.1 h0] at n3;refine(nr (some (x1+1)) w7).mono ?_;rintro _ _ ⟨rfl,rfl⟩;refine(jX n3 (λq hq=>by cases hq) dC).mono ?_;rintro v w8 ⟨ho,_,hf8⟩;have hG8:Fm (w2.heap.size<=·) w2 w8:=(hG6.trans hf7 (λ_ _ e=>e) (λy _ e=>oM)).trans hf8 (λ_ _ e=>e) (λ_ _ e=>e.elim);have hb8:=hf8.heap (hf7.heap hb6 oM) (λe=>e);have hlt12:w1.heap.size<w2.heap.size:=oM;have hw18:=hG8.heap hw2 oM;simp only[RU,(CellsAt.aT ho).lenV];refine⟨λvs w9=>vs=[iv 0]/\w9=w8,λ_ _=>0,⟨rfl,rfl⟩,?_⟩;rintro w9 v3 ⟨hvs,rfl⟩;cases hvs;simp only[RU,show decide ((0:Int)<((([]:List (Int×Int)).length:Nat):Int))=false from rfl,aa (n:=6) hb8 rfl];refine aq hw18 (λwa hwa hsa hfa=>?_) rfl rfl rfl;simp only[RU,aa (n:=6) hwa rfl];exact Fm.own (Fmf hF7 hf8) hfa (λy e=>by have:=hf1.size;omega)
 ·intro kk hkk;refine(FH (h.keep hF3) (hf3.heap hw12 (λe=>e))).mono ?_;rintro _ w4 ⟨rfl,hf4⟩;simp only[RU,show decide ((0:Int)<=-1)=false from rfl];exact hkk _ _ ⟨rfl,hf4⟩
end
open M (Ctl jw E)
section
variable{w w':World}{c:Ctl}{b g m:Nat}{d d':Go.Al.Dk}
theorem gC{r:Go.Al.Dk×Int}(h:M.okD r=some d'):r.2=0/\r.1=d':=by unfold M.okD at h;obtain⟨_,hg,h⟩:=bind_some h;cases h;exact⟨F9 (an hg),rfl⟩
theorem leaf_spec:Cl prog 67 [] w λo w'=>o=.agg (pcs { pg0 with kind:=3 } nl)/\Fm F0 w w':=by refine cU0 func67 ?_;refine ae ?_;rintro b1 w1 rfl hs1 hw1 hf1;refine bst (pcs { pg0 with kind:=3 } nl) (aq hw1 (λw2 hw2 hs2 hf2=>?_) rfl rfl rfl);simp only[RU,aa (n:=6) hw2 rfl];exact Fm.own hf1 hf2 (λy e=>oM)
theorem sV(h:DAt w b g m (Go.Al.Dk.mk0 (M.sectors c).toNat))(hc:fI c=true)(h4:c.m % 4=0)(hq:M.formatM c=some d'):Cl prog 25 [pv b,.agg (cfC c)] w λo w'=>o=iv 0/\DAt w' b g m d'/\Fm (Dm b g m) w w':=by
 unfold M.formatM at hq;obtain⟨d1,q1,hq⟩:=bind_some hq;obtain⟨d2,q2,hq⟩:=bind_some hq;obtain⟨d3,q3,hq⟩:=bind_some hq;obtain⟨d4,q4,hq⟩:=bind_some hq;obtain⟨d5,q5,hq⟩:=bind_some hq;have q1:=gC q1;have q2:=gC q2;have q3:=gC q3;have q4:=gC q4;have q5:=gC q5;have q6:=gC hq;refine cU2 func25 ?_;refine ae ?_;rintro b1 w1 rfl hs1 hw1 hf1;refine ae ?_;rintro b2 w2 rfl hs2 hw2 hf2;simp only[RU,aa (n:=4) hw2 rfl];refine(iw hc).mono ?_;rintro _ w3 ⟨rfl,hf3⟩;simp only[RU];refine aF (us:=#[iv 2,iv (2+c.secs),iv (M.sectors c)]) (λw4 hs4 hw4 hf4=>?_) rfl rfl rfl;have hd:=Fm.drew F0 w4;have hF3:=Fmf (Fmf (Fmf hf1 hf2) hf3) hf4;have hF:=Fmf hF3 hd;have k1:=(Fmf (Fmf (Fmf hf2 hf3) hf4) hd).heap hw1 (λe=>e);have k2:=(Fmf (Fmf hf3 hf4) hd).heap hw2 (λe=>e);have k3:=hd.heap hw4 (λe=>e);have h4d:=h.aS hF;refine⟨λwx=>Fm F0 w4.drew wx,Fm.refl _ _,?_⟩;have hh:=hc;unfold fI at hh;simp only[E5,D8] at hh;have hcl:=hh.1.2;have hmo:Mo c.m:=⟨oM,oM,oM⟩;have hsz:((Go.Al.Dk.mk0 (M.sectors c).toNat).cur.length:Int)=M.sectors c:=by show((List.replicate _ _).length:Int)=_;rw[G6];unfold M.sectors;omega
 simp only[RU,ab ((Fmf (Fmf hf2 hf3) hf4).heap hw1 (λe=>e)),show((0:Int) != 0)=false from rfl];refine⟨iv (M.sectors c),λwx hx=>?_,?_⟩
 ·simp only[RU,ab (hx.heap k3 (λe=>e)),I2]
 refine(cP h4d).mono ?_;rintro _ _ ⟨rfl,rfl⟩;refine⟨Fm.refl _ _,?_⟩;simp only[RU,hsz,show decide (M.sectors c<M.sectors c)=false from C8 oM,ab ((Fmf (Fmf hf2 hf3) hf4).heap hw1 (λe=>e))];have hbz:∀y,w.heap.size<=y->¬Dm b g m y:=λy hy e=>by have:=h.lt;unfold Dm at e;omega
 generalize hF6:([.func (.func 61) #[] #[pv w.heap.size],.func (.func 64) #[] #[pv w1.heap.size,pv w.heap.size,pv w3.heap.size],.func (.func 68) #[] #[pv w.heap.size,pv w3.heap.size,pv w1.heap.size],.func (.func 70) #[pv b] #[],.func (.func 71) #[] #[pv w1.heap.size,pv w.heap.size],.func (.func 70) #[pv b] #[]]:List Value)=F6;refine bsl 6 F6.toArray 126 ?_ (by rw[<- hF6];kernel_rfl);have hl6:F6.length=6:=by rw[<- hF6];rfl
 have hfa:=Fm.alloc F0 w4.drew (.cells F6.toArray 126);have hcs:CellsAt (w4.drew.alloc (.cells F6.toArray 126)) (.slice (some ⟨w4.drew.heap.size,0,none⟩) 6 6) F6.length 1 F6:=by rw[hl6];exact CellsAt.aT (dm (w:=w4.drew) (e:=126) (sz:=1) (n:=6) (l:=F6) (by rw[hl6]) (E4 _) dC)
 have ha:=h4d.aS hfa;have k1:=hfa.heap k1 (λe=>e);have k2:=hfa.heap k2 (λe=>e);have k3:=hfa.heap k3 (λe=>e);have hFa:=Fmf hF hfa;have z4:w4.heap.size=w4.drew.heap.size:=by rw[aN]
 have z3:=hFa.size;generalize w4.drew.alloc (.cells F6.toArray 126)=wa at hfa hcs ha k1 k2 k3 hFa z3 ⊢;refine(Gh (F:=F6) (λi wx=>Fm (Dm b g m) wa wx/\∃dx,DAt wx b g m dx/\[Go.Al.Dk.mk0 (M.sectors c).toNat,d1,d2,d3,d4,d5,d'][i]?=some dx) oM ⟨Fm.refl _ _,_,ha,rfl⟩ (λi wx hx=>hcs.keep hx.1 (λy hy=>by cases hy;exact hbz _ (by have:=hF.size;omega))) ?_).mono ?_
 ·rintro i f wx hi ⟨hx,dx,hD,hdx⟩ k hk;have k1:=hx.heap k1 (hbz _ (E4 _));have k2:=hx.heap k2 (hbz _ hf1.size);have k3:=hx.heap k3 (hbz _ (Fmf (Fmf hf1 hf2) hf3).size);have hdw:=Fm.drew F0 wx;have up:∀{a b':World},Fm F0 a b'->Fm (Dm b g m) wa a->Fm (Dm b g m) wa b':=λf k=>k.trans f (λ_ _ e=>e) (λ_ _ e=>e.elim);rw[<- hF6] at hi
  match i,hi with
  | 0,hi=>
   cases hi;cases hdx;refine ay kR ?_;refine cU1 func61 ?_;refine⟨λwy=>Fm F0 wx.drew wy,Fm.refl _ _,pv b,λwy hy=>?_,?_⟩
   ·simp only[RU,ab (hy.heap (hdw.heap k1 (λe=>e)) (λe=>e)),I2]
   refine(bZ _ 128 dC).mono ?_;rintro _ wy ⟨rfl,hfy⟩;refine⟨hfy,(bX (hD.aS (Fmf hdw hfy)) 0 (az 128) dC).mono ?_⟩;rintro _ wz ⟨rfl,hz,hfz⟩;rw[q1.1];exact hk _ ⟨(up (Fmf hdw hfy) hx).trans hfz (λ_ _ e=>e) (λ_ _ e=>e),d1,q1.2▸hz,rfl⟩
  | 1,hi=>
   cases hi;cases hdx;refine ay kR ?_;refine cU3 func64 ?_;simp only[RU,ab k2];refine(sD hmo h4).mono ?_;rintro _ wy ⟨u,rfl,hN,hfy⟩;simp only[RU];refine aF (us:=pcs (M.clogNew c.m) u) (λwz hsz hwz hfz=>?_) rfl rfl (G8.2 (bE hN.one));simp only[RU,aa (n:=6) hwz rfl];refine(cQ (hN.keep hfz).as).mono ?_;rintro _ wr ⟨rfl,hfr⟩;simp only[RU,wE];refine leaf_spec.mono ?_;rintro _ wq ⟨rfl,hfq⟩;refine(cQ (p:={ pg0 with kind:=3 }) ?_).mono ?_
   ·exact(⟨rfl,CellsAt.aT (World.ownsRow_nil wq 0 9 1),λx hx=>by simp[pg0] at hx,dC,λ_ _ _=>K3 _⟩:PgN wq 0 nl { pg0 with kind:=3 }).as
   rintro _ wp ⟨rfl,hfp⟩;have hF5:=Fmf (Fmf (Fmf (Fmf hfy hfz) hfr) hfq) hfp;simp only[RU,wE,ab (hF5.heap k1 (λe=>e)),ab (hF5.heap k3 (λe=>e))];have hlp:∀q:Pg,(pEnc q).1.length<=512:=λq=>by
    by_cases hp:pErr q=0
    ·rw[gD hp];exact E4 _
    ·rw[kx hp];exact K3 _
   rw[show aE TypeDesc.string BinOp.add (stv (pEnc (M.clogNew c.m)).1) (stv (pEnc { pg0 with kind:=3 }).1)=some (stv ((pEnc (M.clogNew c.m)).1++(pEnc { pg0 with kind:=3 }).1)) from nR (G3 (Nat.add_le_add (hlp _) (hlp _)) dC)];simp only[RU];refine(bX (hD.aS hF5) (2+c.secs) _ (by rw[D9];exact G3 (Nat.add_le_add (hlp _) (hlp _)) dC)).mono ?_;rintro _ wt ⟨rfl,hz,hft⟩;rw[q2.1];exact hk _ ⟨(up hF5 hx).trans hft (λ_ _ e=>e) (λ_ _ e=>e),d2,q2.2▸hz,rfl⟩
  | 2,hi=>cases hi;cases hdx;refine ay kR ?_;refine cU3 func68 ?_;simp only[RU,ab k1,ab k2,ab k3];refine(rX hD 2 c.secs).mono ?_;rintro _ wz ⟨x,rfl,hz,hfz,_⟩;simp only[RU];rw[q3.1];exact hk _ ⟨hx.trans hfz (λ_ _ e=>e) (λ_ _ e=>e),d3,q3.2▸hz,rfl⟩
  | 3,hi=>cases hi;cases hdx;refine ay kR ((dD hD).mono ?_);rintro _ wy ⟨rfl,hy,hf⟩;rw[q4.1];exact hk _ ⟨hx.trans hf (λ_ _ e=>e) (λ_ _ e=>e),d4,q4.2▸hy,rfl⟩
  | 4,hi=>cases hi;cases hdx;refine ay kR ?_;refine cU2 func71 ?_;simp only[RU,aa (n:=4) k2 rfl];refine bst (ctC c) ((qh hc).mono ?_);rintro _ wy ⟨rfl,hfy⟩;simp only[RU,ab (hfy.heap k1 (λe=>e))];refine(bX (hD.aS hfy) 1 (jw c) (by rw[hcl];decide)).mono ?_;rintro _ wz ⟨rfl,hz,hfz⟩;rw[q5.1];exact hk _ ⟨(up hfy hx).trans hfz (λ_ _ e=>e) (λ_ _ e=>e),d5,q5.2▸hz,rfl⟩
  | 5,hi=>cases hi;cases hdx;refine ay kR ((dD hD).mono ?_);rintro _ wy ⟨rfl,hy,hf⟩;rw[q6.1];exact hk _ ⟨hx.trans hf (λ_ _ e=>e) (λ_ _ e=>e),d',q6.2▸hy,rfl⟩
 ·rintro _ wx ⟨rfl,hx,dx,hD,hdx⟩;rw[hl6] at hdx;cases hdx;exact⟨rfl,hD,(hFa.mono (λ_ _ e=>e.elim)).trans hx (λ_ _ e=>e) (λ_ _ e=>e)⟩
end
section
variable{w w':World}{c:Ctl}{b g m:Nat}{d d':Go.Al.Dk}{e:E}
def P3(w:World)(a b:Nat)(v:Value):Prop:=∃kb kh kw,v=pv kb/\IsT w kb kh kw [] []/\(a<=kb/\kb<b)/\(a<=kh/\kh<b)/\a<=kw/\kw<b
def P4(w:World)(a b:Nat)(v:Value):Prop:=∃tb tm,v=pv tb/\TxAt w (λy=>y=tb\/y=tm) tb tm [] []/\(a<=tb/\tb<b)/\a<=tm/\tm<b
def P6(w:World)(a b:Nat)(v:Value):Prop:=∃sb sm,v=pv sb/\SpAt w sb sm none/\(a<=sb/\sb<b)/\a<=sm/\sm<b
def P7(w:World)(a b:Nat)(v:Value):Prop:=∃mt,v=.map (some mt)/\MapAt w mt iv Value.bool []/\a<=mt/\mt<b
theorem P3.keep{x y:Nat}{v:Value}(h:P3 w x y v)(hf:Fm F0 w w'):P3 w' x y v:=by obtain⟨kb,kh,kw,e,h1,h2⟩:=h;exact⟨kb,kh,kw,e,h1.keep hf id id id,h2⟩
theorem P4.keep{x y:Nat}{v:Value}(h:P4 w x y v)(hf:Fm F0 w w'):P4 w' x y v:=by obtain⟨kb,kh,e,h1,h2⟩:=h;exact⟨kb,kh,e,h1.keep hf iT,h2⟩
theorem P6.keep{x y:Nat}{v:Value}(h:P6 w x y v)(hf:Fm F0 w w'):P6 w' x y v:=by obtain⟨kb,kh,e,h1,h2⟩:=h;exact⟨kb,kh,e,h1.keep hf id id,h2⟩
theorem P7.keep{x y:Nat}{v:Value}(h:P7 w x y v)(hf:Fm F0 w w'):P7 w' x y v:=by obtain⟨kb,e,h1,h2⟩:=h;exact⟨kb,e,h1.keep hf id,h2⟩
theorem mk3:Cl prog 82 [] w λv w'=>P3 w' w.heap.size w'.heap.size v/\Fm F0 w w':=by refine(zM w).mono ?_;rintro _ w' ⟨kb,kh,kw,rfl,h1,h2,h3,h4,hf⟩;exact⟨⟨kb,kh,kw,rfl,h4,⟨h1,aj h4.st⟩,⟨h2,h4.hs.lt⟩,h3,h4.ws.lt⟩,hf⟩
theorem mk4:Cl prog 83 [] w λv w'=>P4 w' w.heap.size w'.heap.size v/\Fm F0 w w':=by refine(xE w).mono ?_;rintro _ w' ⟨tb,tm,rfl,h1,h2,h4,hf⟩;exact⟨⟨tb,tm,rfl,⟨h4.st,h4.mp,h4.keys,h4.nd,⟨.inl rfl,.inr rfl,λp hp=>by cases hp⟩,λwho g hk=>by cases hk⟩,⟨h1,aj h4.st⟩,h2,h4.mp.lt⟩,hf⟩
theorem mk6:Cl prog 84 [] w λv w'=>P6 w' w.heap.size w'.heap.size v/\Fm F0 w w':=by refine(AY w).mono ?_;rintro _ w' ⟨tb,tm,rfl,h1,h2,h4,hf⟩;exact⟨⟨tb,tm,rfl,h4,⟨h1,aj h4.st⟩,h2,h4.mp.lt⟩,hf⟩
theorem mk7{k:KV}(hk:∀v w',P7 w' w.heap.size w'.heap.size v->Fm F0 w w'->k v w'):RunS prog (Instr.makeMap 84 none) w k:=by refine ag (bk _ _) (hk _ _ ⟨_,rfl,MapAt.empty w iv Value.bool,E4 _,by rw[aG];omega⟩ (Fm.alloc F0 _ _))
theorem Mr{C:World->Prop}{J:Value->Value->Value->Value->World->Prop}(hC:∀w',Fm F0 w w'->C w')(K:∀w' v3 v4 v6 v7 a3 b3 a4 b4 a6 b6 a7 b7,P3 w' a3 b3 v3->P4 w' a4 b4 v4->P6 w' a6 b6 v6->P7 w' a7 b7 v7->((b3<=a4\/b4<=a3)/\(b3<=a6\/b6<=a3)/\(b3<=a7\/b7<=a3)/\(b4<=a6\/b6<=a4)/\(b4<=a7\/b7<=a4)/\(b6<=a7\/b7<=a6))->(w.heap.size<=a3/\w.heap.size<=a4/\w.heap.size<=a6/\w.heap.size<=a7)->(b3<=w'.heap.size/\b4<=w'.heap.size/\b6<=w'.heap.size/\b7<=w'.heap.size)->Fm F0 w w'->J v3 v4 v6 v7 w'):
  (Cl prog 82 [] w λv3 w1=>C w1/\((Cl prog 83 [] w1 λv4 w2=>C w2/\((Cl prog 84 [] w2 λv6 w3=>C w3/\RunS prog (Instr.makeMap 84 none) w3 λv7 w4=>C w4/\J v3 v4 v6 v7 w4)/\(RunS prog (Instr.makeMap 84 none) w2 λv7 w3=>C w3/\Cl prog 84 [] w3 λv6 w4=>C w4/\J v3 v4 v6 v7 w4)/\True))/\(RunS prog (Instr.makeMap 84 none) w1 λv7 w2=>C w2/\Cl prog 83 [] w2 λv4 w3=>C w3/\Cl prog 84 [] w3 λv6 w4=>C w4/\J v3 v4 v6 v7 w4)/\True)) /\
  (RunS prog (Instr.makeMap 84 none) w λv7 w1=>C w1/\Cl prog 82 [] w1 λv3 w2=>C w2/\Cl prog 83 [] w2 λv4 w3=>C w3/\Cl prog 84 [] w3 λv6 w4=>C w4/\J v3 v4 v6 v7 w4)/\True:=by
 refine⟨mk3.mono ?_,mk7 ?_,trivial⟩
 ·rintro v3 w1 ⟨h3,f1⟩;have z1:=f1.size;refine⟨hC _ f1,mk4.mono ?_,mk7 ?_,trivial⟩
  ·rintro v4 w2 ⟨h4,f2⟩;have z2:=f2.size;refine⟨hC _ (Fmf f1 f2),mk6.mono ?_,mk7 ?_,trivial⟩
   ·rintro v6 w3 ⟨h6,f3⟩;have z3:=f3.size;refine⟨hC _ (Fmf (Fmf f1 f2) f3),mk7 λv7 w4 h7 f4=>?_⟩;have z4:=f4.size;have F:=Fmf (Fmf (Fmf f1 f2) f3) f4;exact⟨hC _ F,K w4 v3 v4 v6 v7 _ _ _ _ _ _ _ _ (h3.keep (Fmf (Fmf f2 f3) f4)) (h4.keep (Fmf f3 f4)) (h6.keep f4) h7 oM oM oM F⟩
   ·intro v7 w3 h7 f3;have z3:=f3.size;refine⟨hC _ (Fmf (Fmf f1 f2) f3),mk6.mono ?_⟩;rintro v6 w4 ⟨h6,f4⟩;have z4:=f4.size;have F:=Fmf (Fmf (Fmf f1 f2) f3) f4;exact⟨hC _ F,K w4 v3 v4 v6 v7 _ _ _ _ _ _ _ _ (h3.keep (Fmf (Fmf f2 f3) f4)) (h4.keep (Fmf f3 f4)) h6 (h7.keep f4) oM oM oM F⟩
  ·intro v7 w2 h7 f2;have z2:=f2.size;refine⟨hC _ (Fmf f1 f2),mk4.mono ?_⟩;rintro v4 w3 ⟨h4,f3⟩;have z3:=f3.size;refine⟨hC _ (Fmf (Fmf f1 f2) f3),mk6.mono ?_⟩;rintro v6 w4 ⟨h6,f4⟩;have z4:=f4.size;have F:=Fmf (Fmf (Fmf f1 f2) f3) f4;exact⟨hC _ F,K w4 v3 v4 v6 v7 _ _ _ _ _ _ _ _ (h3.keep (Fmf (Fmf f2 f3) f4)) (h4.keep f4) h6 (h7.keep (Fmf f3 f4)) oM oM oM F⟩
 ·intro v7 w1 h7 f1;have z1:=f1.size;refine⟨hC _ f1,mk3.mono ?_⟩;rintro v3 w2 ⟨h3,f2⟩;have z2:=f2.size;refine⟨hC _ (Fmf f1 f2),mk4.mono ?_⟩;rintro v4 w3 ⟨h4,f3⟩;have z3:=f3.size;refine⟨hC _ (Fmf (Fmf f1 f2) f3),mk6.mono ?_⟩;rintro v6 w4 ⟨h6,f4⟩;have z4:=f4.size;have F:=Fmf (Fmf (Fmf f1 f2) f3) f4;exact⟨hC _ F,K w4 v3 v4 v6 v7 _ _ _ _ _ _ _ _ (h3.keep (Fmf f3 f4)) (h4.keep f4) h6 (h7.keep (Fmf (Fmf f2 f3) f4)) oM oM oM F⟩
theorem Ms{f:Nat}{x:Array Value}{vs vm vi vp vt:Value}{r:Rc}(hf:w.heap[f]?=some (.cells x 154))(h0:x[0]?=some (iv 1))(hl:1<=r.lsn):Cl prog 86 [.agg (rcs r vs vm vi vp vt),pv f] w λo w'=>o=.bool false/\Fm F0 w w':=by refine cU2 func86 ?_;refine ae ?_;rintro b1 w1 rfl hs1 hw1 hf1;have hb:RB w1 w.heap.size r vs vm vi vp vt:=⟨hw1⟩;simp only[RU,hb.c0,ab (hf1.heap hf id),h0,C8 (oM:¬r.lsn<1)];exact hf1
theorem Ih{rv:Value}{rs:List Rc}{f:Nat}{x:Array Value}(h:RcL w rv rs)(hl:∀r∈rs,1<=r.lsn)(hf:w.heap[f]?=some (.cells x 154))(h0:x[0]?=some (iv 1)):Cl prog 85 [rv,.func (.func 86) #[] #[pv f]] w λo w'=>o=rv/\Fm F0 w w':=by
 refine cU2 func85 ?_ (V [(5,[5,6])]) (J [(6,[5])]);have hI:Cl prog 172 [rv,.func (.func 86) #[] #[pv f]] w λo w'=>o=iv (-1)/\Fm F0 w w':=by
  refine cU2 func172 ?_ (V [(2,[8])]);simp only[RU,h.len];refine⟨λvs w2=>∃i:Nat,vs=[iv i]/\i<=rs.length/\Fm F0 w w2,λvs _=>(rs.length - nth vs 0).toNat,⟨0,rfl,K3 _,Fm.refl _ _⟩,?_⟩;rintro w2 v1 ⟨i,hvs,hi,hf2⟩;cases hvs;by_cases hlt:i<rs.length
  ·obtain⟨ad,vs,vm,vi,vp,vt,k1,_,k2⟩:=h.ld (E0 hlt);have k2:=(k2 _ hf2).1;simp only[RU,C9 (oM:(i:Int)<(rs.length:Int)),k1,k2];refine ay kR ((Ms (hf2.heap hf id) h0 (hl _ (K9 hlt))).mono ?_);rintro _ w3 ⟨rfl,hf3⟩;simp only[RU,show IntKind.i64.wrap ((i:Int)+1)=((i+1:Nat):Int) by have:=h.le;rw[af]<;>omega];exact⟨⟨i+1,rfl,hlt,Fmf hf2 hf3⟩,by simp only[bl];omega⟩
  ·obtain rfl:i=rs.length:=oM;simp only[RU,C8 (oM:¬((rs.length:Nat):Int)<(rs.length:Int))];exact hf2
 refine hI.mono ?_;rintro _ w2 ⟨rfl,hf2⟩;simp only[RU,show((-1:Int) == -1)=true from rfl];exact hf2
end
section
variable{w w':World}{c:Ctl}{b g m:Nat}{d d':Go.Al.Dk}{e:E}
theorem vF(d:Go.Al.Dk):d.tick.cur.length=d.cur.length:=by unfold Go.Al.Dk.tick;split<;>rfl
theorem Ey:∀(l:List Bs) (d:Go.Al.Dk) (i:Nat),(d.wr i l).1.cur.length=d.cur.length
 | [],_,_=>rfl
 | x::l,d,i=>by
  have e:((d.put i x).tick).cur.length=d.cur.length:=(vF _).trans (K0 ..);rw[Go.Al.Dk.wr];cases(d.put i x).tick.gone
  ·exact(Ey l _ _).trans e
  ·exact e
theorem sf(d:Go.Al.Dk)(a:Int)(s:Bs):(d.write a s).1.cur.length=d.cur.length:=by
 unfold Go.Al.Dk.write;cases d.gone
 ·cases decide (s.length % 64≠0)||!(d.has a (s.length / 64:Nat))
  ·exact Ey _ _ _
  ·rfl
 ·rfl
theorem Dr(d:Go.Al.Dk):d.sync.1.cur.length=d.cur.length:=by
 unfold Go.Al.Dk.sync;cases d.gone
 ·show(bif d.tick.gone then _ else _:Go.Al.Dk×Int).1.cur.length=_;cases d.tick.gone<;>exact vF d
 ·rfl
theorem gL(frm:Nat):∀(l:List Bs) (i:Nat) (t:Bool) (d:Go.Al.Dk),(dv frm l i t d).2.1.cur.length=d.cur.length
 | [],_,_,_=>rfl
 | x::l,i,t,d=>by
  rw[dv];cases decide (x=[])
  ·cases decide ((d.read ((frm+i:Nat):Int) 1).2=0)
   ·rfl
   ·cases decide ((d.read ((frm+i:Nat):Int) 1).1=x)
    ·cases decide ((d.write ((frm+i:Nat):Int) x).2=0)
     ·exact sf _ _ _
     ·exact(gL frm l _ _ _).trans (sf _ _ _)
    ·exact gL frm l _ _ _
  ·exact gL frm l _ _ _
theorem CR(d:Go.Al.Dk)(i j k:Int):(nF d i j k).1.cur.length=d.cur.length:=by
 unfold nF;cases !(iW d i j)||decide (k<1)
 ·cases d.gone
  ·cases decide ((bB d i.toNat j.toNat ((k.toNat - 1) / 54) j.toNat 0 []).2=0)
   ·rfl
   ·show(Lg.iO _ d).1.cur.length=_;unfold Lg.iO Lg.iV;have:=gL (pT d i.toNat j.toNat k.toNat).frm (pT d i.toNat j.toNat k.toNat).want 0 false d;cases decide ((dv (pT d i.toNat j.toNat k.toNat).frm (pT d i.toNat j.toNat k.toNat).want 0 false d).2.2=0)
    ·exact this
    ·cases(dv (pT d i.toNat j.toNat k.toNat).frm (pT d i.toNat j.toNat k.toNat).want 0 false d).1
     ·exact this
     ·exact(Dr _).trans this
  ·rfl
 ·rfl
theorem Fi{m:Int}(h0:0<=m)(h1:m<=1024)(h:xZ .i64 m 1=0):m % 2=0:=by obtain⟨n,rfl⟩:=G1 h0;rw[show(1:Int)=((1:Nat):Int) from rfl,ya n 1 oM dC,Nat.and_one_is_mod] at h;omega
theorem KJ(Z:Nat->Nat->Prop)(hd:∀c c' y,Z c y->Z c' y->c=c'):∃O:Nat->Nat,∀y,(∀c,Z c y->O y=c)/\(O y≠99->∃c,Z c y):=by
 classical
 refine⟨λy=>if h:∃c,Z c y then h.choose else 99,λy=>⟨λc hc=>?_,λhn=>?_⟩⟩
 ·have h:∃c,Z c y:=⟨c,hc⟩;show(if h:∃c,Z c y then h.choose else 99)=c;rw[dif_pos h];exact hd _ _ y h.choose_spec hc
 ·apply I4;intro c;exact hn (dif_neg c)
theorem Kp{X:Prop}{c c' y x n0 n4 n5 n7 n8 n9 na a3 b3 a4 b4 a6 b6 a7 b7:Nat}(ho:n0<=n4/\n4<=n5/\n5<=n7/\n7<=n8/\n8<=n9/\n9<=na/\na<=x)(hdj:(b3<=a4\/b4<=a3)/\(b3<=a6\/b6<=a3)/\(b3<=a7\/b7<=a3)/\(b4<=a6\/b6<=a4)/\(b4<=a7\/b7<=a4)/\(b6<=a7\/b7<=a6))(hlo:na<=a3/\na<=a4/\na<=a6/\na<=a7)(hhi:b3<=x/\b4<=x/\b6<=x/\b7<=x)
  (h1:(c=0/\y=x)\/(c=1/\(y<n0\/(n4<=y/\y<n5/\X)\/(n9<=y/\y<na)))\/(c=3/\a3<=y/\y<b3)\/(c=4/\a4<=y/\y<b4)\/(c=5/\n7<=y/\y<n8)\/(c=6/\a6<=y/\y<b6)\/(c=7/\((n4<=y/\y<n5/\¬X)\/(a7<=y/\y<b7)))) (h2:(c'=0/\y=x)\/(c'=1/\(y<n0\/(n4<=y/\y<n5/\X)\/(n9<=y/\y<na)))\/(c'=3/\a3<=y/\y<b3)\/(c'=4/\a4<=y/\y<b4)\/(c'=5/\n7<=y/\y<n8)\/(c'=6/\a6<=y/\y<b6)\/(c'=7/\((n4<=y/\y<n5/\¬X)\/(a7<=y/\y<b7)))):c=c':=by
 by_cases hX:X<;>simp only[hX,and_true,and_false,not_true,not_false_iff,false_or] at h1 h2<;>rcases h1 with h1|h1|h1|h1|h1|h1|h1<;>omega
abbrev ssK(k:Nat):List (List Value):=(List.range 8).map λi=>seC (if i<k then i else 0) M.seat0 nl np
theorem Gu:∀k,k<8->(ssK k).set k ((seC 0 M.seat0 nl np).set 0 (iv k))=ssK (k+1)
 | 0,_=>rfl
 | 1,_=>rfl
 | 2,_=>rfl
 | 3,_=>rfl
 | 4,_=>rfl
 | 5,_=>rfl
 | 6,_=>rfl
 | 7,_=>rfl
 | k+8,h=>by omega
theorem IQ:∀k,k<8->(ssK k)[k]?=some (seC 0 M.seat0 nl np)
 | 0,_=>rfl
 | 1,_=>rfl
 | 2,_=>rfl
 | 3,_=>rfl
 | 4,_=>rfl
 | 5,_=>rfl
 | 6,_=>rfl
 | 7,_=>rfl
 | k+8,h=>by omega
theorem tj(h:DAt w b g m d)(hc:fI c=true)(hq:M.openM d c=some e):Cl prog 28 [pv b] w λo w'=>∃B O u rv yv ss,o=.tuple #[pv B.x,iv 0]/\RP w' O B e u rv yv ss/\(B.db=b/\B.g=g/\B.m=m)/\(∀y,O y≠99->Dm b g m y\/w.heap.size<=y)/\Fm (Dm b g m) w w':=by
 have hh:=hc;unfold fI at hh;simp only[E5,D8] at hh;obtain⟨⟨⟨c1,c2,c3,c4,c5,c6,c7,c8,c9⟩,hcl⟩,_⟩:=hh;unfold M.openM at hq;obtain⟨_,g1,hq⟩:=bind_some hq;obtain⟨_,g2,hq⟩:=bind_some hq;obtain⟨_,g3,hq⟩:=bind_some hq;obtain⟨_,g4,hq⟩:=bind_some hq;obtain⟨_,g5,hq⟩:=bind_some hq;obtain⟨_,g6,hq⟩:=bind_some hq;obtain⟨_,g7,hq⟩:=bind_some hq;have he:=J7 hq;have g1:=an g1;have g2:=F9 (an g2);have g3:=F9 (an g3);have g4:=an g4;have g5:=an g5;have g6:=F9 (an g6);have g7:=an g7;simp only[E5,D8,Nf,G8] at g1 g5 g7;refine cU1 func28 ?_ (V [(30,[138])]) (J [(9,[5,6]),(28,[14])]);refine(mR h).mono ?_;rintro _ w ⟨rfl,rfl⟩;simp only[RU,g1.2];refine(gr h 0 2).mono ?_;rintro _ w ⟨rfl,rfl⟩;rw[g2];simp only[RU,show((0:Int) != 0)=false from rfl];refine aL (λvs w2=>∃b2,vs=[iv 0,pv b2]/\w2.heap[b2]?=some (.cells (ctC c) 63)/\Fm F0 w w2/\w.heap.size<=b2) ?_ ?_
 ·rintro _ w2 ⟨b2,rfl,hb2,hf2,hlb2⟩;simp only[RU,show((0:Int) != 0)=false from rfl,show aJ w2 ⟨b2,0,none⟩ 4=some (.agg (cfC c)) from aO (l:=(cfC c).toList) rfl (λj hj=>by rw[aC,ab hb2];match j,hj with|0,_=>rfl|1,_=>rfl|2,_=>rfl|3,_=>rfl)];refine(iw hc).mono ?_;rintro _ w3 ⟨rfl,hf3⟩;simp only[RU];refine aF (us:=#[iv 2,iv (2+c.secs),iv (M.sectors c)]) (λw4 hs4 hw4 hf4=>?_) rfl rfl rfl;have hd4:=Fm.drew F0 w4;refine⟨λwx=>Fm F0 w4.drew wx,Fm.refl _ _,?_⟩;simp only[RU];refine⟨iv (M.sectors c),λwx hx=>?_,?_⟩
  ·simp only[RU,ab (hx.heap (hd4.heap hw4 (λe=>e)) (λe=>e)),I2]
  have hF4:=Fmf (Fmf (Fmf hf2 hf3) hf4) hd4;refine(cP (h.aS hF4)).mono ?_;rintro _ _ ⟨rfl,rfl⟩;refine⟨Fm.refl _ _,?_⟩;have hb4:=(Fmf (Fmf hf3 hf4) hd4).heap hb2 (λe=>e);have hl4:=hd4.heap hw4 (λe=>e);have cb4:=λo=>ab (off:=o) hb4;have cl4:=λo=>ab (off:=o) hl4;simp only[RU,C8 (oM:¬(d.cur.length:Int)<M.sectors c),cb4,cl4];refine(xH (h.aS hF4) 2 c.secs 1 dC).mono ?_;rintro _ w5 ⟨p,ov,rfl,hD5,hf5,_,hok⟩;obtain⟨lb,X,Q,C,rfl,hL5,hov,hCl,hCh,hXl,hQl,hov2⟩:=(hok g3).ex;rw[g3]
  replace hL5:LAt w5 X lb b (pT d 2 c.secs.toNat 1):=hL5
  replace hCl:C.length=(uZ d 2 c.secs.toNat 1).1.length:=hCl
  replace hCh:∀(i:Nat) cs r,C[i]?=some cs->(uZ d 2 c.secs.toNat 1).1[i]?=some r->Held w5 Q cs r:=hCh
  generalize (uZ d 2 c.secs.toNat 1).1=rs at hCl hCh g4 g5 g7 he;generalize pT d 2 c.secs.toNat 1=L at hL5 g6 he;have hd2:=CR d 2 c.secs 1;generalize (nF d 2 c.secs 1).1=d2 at hD5 he hd2;clear hok;have hdl:=h.lt;have ndm:∀y,w.heap.size<=y->¬Dm b g m y:=λy hy e=>by unfold Dm at e;omega
  have z4:=hF4.size;have z5:=hf5.size;have hb5:=hf5.heap hb4 (ndm _ hlb2);have hl5:=hf5.heap hl4 (ndm _ (Fmf hf2 hf3).size);have hR5:RcL w5 ov rs:=⟨C,Q,CellsAt.aT hov,hCl,hCh⟩;have hmo:Mo c.m:=⟨oM,oM,Fi oM oM c9⟩;simp only[RU,show((0:Int) == 0)=true from rfl,ab hb5,aa (n:=7) hb5 rfl];refine(zn hmo hR5 g4 (λr hr=>⟨(g5 r hr).1.1.2,λx hx=>(g5 r hr).2 x hx⟩)).mono ?_;rintro _ w6 ⟨rfl,hf6⟩;have z6:=hf6.size;refine aF (us:=fC (M.findX c.m rs 1) (M.findP rs 2)) (λw7 hs7 hw7 hf7=>?_) rfl rfl rfl;have hf57:=Fmf hf6 hf7;have hb7:=hf57.heap hb5 (λe=>e);simp only[RU,ab hb7,ab hw7];refine(BH hmo (by unfold M.idOk;exact C9 g7.2) g7.1).mono ?_;rintro _ w8 ⟨ib,rfl,hib,hi8,hf8⟩;have hf58:=Fmf hf57 hf8;have z8:=hf58.size;have hw8:=hf8.heap hw7 (λe=>e);simp only[RU,show((0:Int) != 0)=false from rfl,ab hw8,show IntKind.i64.wrap (700*IntKind.i64.wrap (0+((0:Nat):Int)))=0 from rfl];refine(js (hL5.aS hf58) 0).mono ?_;rintro _ w9 ⟨rfl,hL9,hf9⟩;rw[g6];have z9:=hf9.size;have hXlb:=hXl lb hL5.lb;have hlbl:=hL5.lt lb hL5.lb;have hne9:∀y,y<w.heap.size\/w5.heap.size<=y\/y<w4.drew.heap.size->¬y=lb:=λy hy e=>by omega
  have hb9:=hf9.heap (hf58.heap hb5 (λe=>e)) (hne9 _ (.inr (.inr (aj hb4))));have hl9:=hf9.heap (hf58.heap hl5 (λe=>e)) (hne9 _ (.inr (.inr (aj hl4))));simp only[RU,show((0:Int) != 0)=false from rfl,ab hb9,ab hl9];have hD9:=(hD5.aS hf58).keep hf9 (hne9 _ (.inl hdl.1)) (hne9 _ (.inl hdl.2.1)) (hne9 _ (.inl hdl.2.2));refine(Am hD9 lb (2+c.secs) c.pages c.frames (by constructor<;>omega)).mono ?_;rintro _ wa ⟨hfa,hpn⟩;rcases hpn with⟨hbad,_⟩|⟨_,pb,fb,ob,Xp,F,rfl,hP,hPw,hXp⟩
  ·exfalso;unfold uV at hbad;unfold M.sectors at g1;rw[hd2] at hbad;simp only[Nl,D8] at hbad;omega
  simp only[RU,show((0:Int) != 0)=false from rfl];have za:=hfa.size;have hf5a:Fm (·=lb) w5 wa:=(hf58.trans hf9 (λ_ _ e=>e.elim) (λ_ _ e=>e)).trans hfa (λ_ _ e=>e) (λ_ _ e=>e.elim);have hba:=hfa.heap hb9 (λe=>e);have hwa:=hfa.heap (hf9.heap hw8 (hne9 _ (.inr (.inl z6)))) (λe=>e);refine aL (λvs wb=>∃x v3 v4 v6 v7 a3 b3 a4 b4 a6 b6 a7 b7,vs=[pv x]/\EgB wb x [pv b,iv c.frames,iv c.m,iv c.secs,iv c.pages,iv 1,iv 1,iv 0,pv lb,pv pb,iv 0,iv 0,iv 0,iv 0,es,nl,v3,v4,pv ib,v6,iv (M.findP rs 2),iv 1,.bool false] (ssK 0) [.bool false,iv 0,iv 0,nl,nl,v7,nl,iv 0]/\P3 wb a3 b3 v3/\P4 wb a4 b4 v4/\P6 wb a6 b6 v6/\P7 wb a7 b7 v7/\((b3<=a4\/b4<=a3)/\(b3<=a6\/b6<=a3)/\(b3<=a7\/b7<=a3)/\(b4<=a6\/b6<=a4)/\(b4<=a7\/b7<=a4)/\(b6<=a7\/b7<=a6))/\(wa.heap.size<=a3/\wa.heap.size<=a4/\wa.heap.size<=a6/\wa.heap.size<=a7)/\(b3<=x/\b4<=x/\b6<=x/\b7<=x)/\wa.heap.size<=x/\Fm F0 wa wb) ?_ ?_
  ·rintro _ wb ⟨x,v3,v4,v6,v7,a3,b3,a4,b4,a6,b6,a7,b7,rfl,hxB,q3,q4,q6,q7,hdj,hlo,hhi,hxa,hfb⟩;obtain⟨kb,kh,kw,rfl,hT3,l3⟩:=q3;obtain⟨tb,tm,rfl,hT4,l4⟩:=q4;obtain⟨sb,sm,rfl,hT6,l6⟩:=q6;obtain⟨mt,rfl,hT7,l7⟩:=q7;have hfab:Fm (·=lb) w5 wb:=hf5a.trans hfb (λ_ _ e=>e) (λ_ _ e=>e.elim);have hXlb':X lb:=hL5.lb;have hvb:∀y,blockOf ov=some y->w4.drew.heap.size<=y/\y<w5.heap.size/\¬X y/\¬Q y:=λy hy=>by have h1:ov.ownBlock=some y:=@blo ov y ov (bd (CellsAt.aT hov)) hy;exact⟨(aR hov y h1).1,(aR hov y h1).2,hov2 y h1⟩
   have hcb:CellsAt wb ov C.length 16 (C.flatMap Array.toList):=(CellsAt.aT hov).keep hfab (λy hy e=>(hvb y hy).2.2.1 (e▸hXlb'));have hQb:∀(i:Nat) cs r,C[i]?=some cs->rs[i]?=some r->Held wb Q cs r:=λi cs r h1 h2=>(hCh i cs r h1 h2).keep hfab (λy hy e=>(hQl y hy).2.2 (e▸hXlb'));simp only[RU];refine(Ih ⟨C,Q,hcb,hCl,hQb⟩ (λr hr=>(g5 r hr).1.2) (hfb.heap hwa (λe=>e)) rfl).mono ?_;rintro o85 wc ⟨ho85,hfc⟩;rw[ho85];have hxc:=hxB.keep hfc (λe=>e);refine hxc.stl (o:=3) dC (gY hcb) λwd hxd hsd hfd=>?_;refine⟨λvs we=>∃k:Nat,vs=[iv k]/\k<=8/\EgB we x [pv b,iv c.frames,iv c.m,iv c.secs,iv c.pages,iv 1,iv 1,iv 0,pv lb,pv pb,iv 0,iv 0,iv 0,iv 0,es,nl,pv kb,pv tb,pv ib,pv sb,iv (M.findP rs 2),iv 1,.bool false] (ssK k) [.bool false,iv 0,iv 0,ov,nl,.map (some mt),nl,iv 0]/\Fm (·=x) wd we,λvs _=>(8 - nth vs 0).toNat,⟨0,rfl,K3 _,hxd,Fm.refl _ _⟩,?_⟩;rintro we v1 ⟨k,hvs,hk,hxe,hfe⟩;cases hvs;by_cases hlt:k<8
   ·simp only[RU,C9 (oM:(k:Int)<8),show ixA 8 25 (.pointer (some ⟨x,23,none⟩)) (iv k)=some (.pointer (some ⟨x,23+k*25,none⟩)) from nq (B:=⟨x,pb,lb,b,g,m,fb,ob,kb,kh,kw,tb,tm,ib,sb,sm,mt,c.frames,c.secs⟩) hlt];refine hxe.A2 (i:=k) (j:=0) (IQ k hlt) dC rfl λwf hxf hsf hff=>?_;rw[Gu k hlt] at hxf;simp only[RU,show IntKind.i64.wrap ((k:Int)+1)=((k+1:Nat):Int) by rw[af]<;>omega];exact⟨⟨k+1,rfl,hlt,hxf,hfe.trans hff (λ_ _ e=>e) (λ_ _ e=>e)⟩,by simp only[bl];omega⟩
   ·obtain rfl:k=8:=oM;simp only[RU,show decide (((8:Nat):Int)<8)=false from rfl];have hfce:Fm (·=x) wb we:=((hfc.mono (λ_ _ e=>e.elim)).trans hfd (λ_ _ e=>e) (λ_ _ e=>e)).trans hfe (λ_ _ e=>e) (λ_ _ e=>e);have hXlt:=hL5.lt;have hXp':=hP.lt;have zb:=hfb.size;have zc:=hfce.size;have zx:=aj hxe.blk;have hfae:Fm (·=x) wa we:=(hfb.mono (λ_ _ e=>e.elim)).trans hfce (λ_ _ e=>e) (λ_ _ e=>e);have hL:=(hL9.aS hfa).keep hfae (λy hy e=>by have:=hXlt y hy;omega);have hD:=(hD9.aS hfa).keep hfae oM oM oM;have hPe:=hP.keep hfae (λy hy e=>by have:=hXp' y hy;omega);have hS:SI we X Xp (λ_=>False) pb lb b g m fb ob F ⟨wU (2+c.secs) c.pages c.frames,(L.reserve 0).1,d2⟩:=⟨hL,hD,hPe,hPw,λy h1 h2=>by have:=hXlt y h1;have:=hXp y h2;omega,⟨λe=>by have:=hXl _ e;omega,λe=>by have:=hXl _ e;omega,λe=>by have:=hXl _ e;omega⟩,⟨λe=>by have:=hXp _ e;omega,λe=>by have:=hXp _ e;omega,λe=>by have:=hXp _ e;omega⟩⟩;have hSY:∀y,SY X Xp b g m y->y<w.heap.size\/(w4.drew.heap.size<=y/\y<w5.heap.size/\X y)\/(w9.heap.size<=y/\y<wa.heap.size):=λy hy=>by
     rcases hy with e|e|rfl|rfl|rfl
     ·exact .inr (.inl ⟨hXl y e,hXlt y e,e⟩)
     ·exact .inr (.inr ⟨hXp y e,hXp' y e⟩)
     ·exact .inl hdl.1
     ·exact .inl hdl.2.1
     ·exact .inl hdl.2.2
    have h7:∀y,(Q y\/blockOf ov=some y\/y=mt)->(w4.drew.heap.size<=y/\y<w5.heap.size/\¬X y)\/(a7<=y/\y<b7):=λy hy=>by
     rcases hy with e|e|rfl
     ·exact .inl (hQl y e)
     ·exact .inl ⟨(hvb y e).1,(hvb y e).2.1,(hvb y e).2.2.1⟩
     ·exact .inr l7
    obtain⟨O,hO⟩:=KJ (λc y=>(c=0/\y=x)\/(c=1/\SY X Xp b g m y)\/(c=3/\(y=kb\/y=kh\/y=kw))\/(c=4/\(y=tb\/y=tm))\/(c=5/\y=ib)\/(c=6/\(y=sb\/y=sm))\/(c=7/\(Q y\/blockOf ov=some y\/y=mt))) (λc1 c2 y h1 h2=>by
     have key:∀c,((c=0/\y=x)\/(c=1/\SY X Xp b g m y)\/(c=3/\(y=kb\/y=kh\/y=kw))\/(c=4/\(y=tb\/y=tm))\/(c=5/\y=ib)\/(c=6/\(y=sb\/y=sm))\/(c=7/\(Q y\/blockOf ov=some y\/y=mt)))->(c=0/\y=x)\/(c=1/\(y<w.heap.size\/(w4.drew.heap.size<=y/\y<w5.heap.size/\X y)\/(w9.heap.size<=y/\y<wa.heap.size)))\/(c=3/\a3<=y/\y<b3)\/(c=4/\a4<=y/\y<b4)\/(c=5/\w7.heap.size<=y/\y<w8.heap.size)\/(c=6/\a6<=y/\y<b6)\/(c=7/\((w4.drew.heap.size<=y/\y<w5.heap.size/\¬X y)\/(a7<=y/\y<b7))):=λc h=>by
      rcases h with h|⟨e,h⟩|⟨e,h⟩|⟨e,h⟩|⟨e,h⟩|⟨e,h⟩|⟨e,h⟩
      ·exact .inl h
      ·exact .inr (.inl ⟨e,hSY y h⟩)
      ·exact .inr (.inr (.inl ⟨e,by rcases h with rfl|rfl|rfl<;>omega⟩))
      ·exact .inr (.inr (.inr (.inl ⟨e,by rcases h with rfl|rfl<;>omega⟩)))
      ·exact .inr (.inr (.inr (.inr (.inl ⟨e,by rw[h];exact⟨hib,aj hi8⟩⟩))))
      ·exact .inr (.inr (.inr (.inr (.inr (.inl ⟨e,by rcases h with rfl|rfl<;>omega⟩)))))
      ·exact .inr (.inr (.inr (.inr (.inr (.inr ⟨e,h7 y h⟩)))))
     exact Kp ⟨z4,z5,hf57.size,hf8.size,z9,za,hxa⟩ hdj hlo hhi (key _ h1) (key _ h2))
    subst he;have hfle:Fm (λy=>y=lb\/y=x) w5 we:=hfab.trans hfce (λ_ _ e=>.inl e) (λ_ _ e=>.inr e);have hxl:∀y,y<w5.heap.size->¬X y->¬(y=lb\/y=x):=λy h1 h2 e=>by
     rcases e with rfl|rfl
     ·exact h2 hXlb'
     ·omega
    have hi8':=hfae.heap (hfa.heap (hf9.heap hi8 (by have:=hib;have:=hf57.size;omega)) (λe=>e)) (by have:=aj hi8;omega);have hcx:∀y,y<x->¬y=x:=λy h e=>by omega
    refine⟨⟨x,pb,lb,b,g,m,fb,ob,kb,kh,kw,tb,tm,ib,sb,sm,mt,c.frames,c.secs⟩,O,nl,ov,nl,ssK 8,rfl,⟨⟨λ_=>⟨X,Xp,λ_=>False,F,hS,λy hy=>(hO y).1 1 (.inr (.inl ⟨rfl,hy⟩))⟩,λ_=>HeldP.zero we _,λ_=>⟨⟨[],[],hT3.keep hfce (hcx _ oM) (hcx _ oM) (hcx _ oM),⟨⟨λ_=>0,λp q h=>by obtain⟨_,h,_⟩:=h;cases h⟩,λp key h=>by cases h⟩,λ_=>rfl,λ_=>rfl⟩,⟨(hO _).1 3 (.inr (.inr (.inl ⟨rfl,.inl rfl⟩))),(hO _).1 3 (.inr (.inr (.inl ⟨rfl,.inr (.inl rfl)⟩))),(hO _).1 3 (.inr (.inr (.inl ⟨rfl,.inr (.inr rfl)⟩)))⟩,List.nodup_nil,List.nodup_nil⟩,λ_=>⟨[],(hT4.keep hfce (λy hy=>hcx _ (by rcases hy with rfl|rfl<;>omega))).wide (λy hy=>(hO y).1 4 (.inr (.inr (.inr (.inl ⟨rfl,hy⟩)))))⟩,λ_=>⟨hi8',(hO _).1 5 (.inr (.inr (.inr (.inr (.inl ⟨rfl,rfl⟩)))))⟩,λ_=>⟨hT6.keep hfce (hcx _ oM) (hcx _ oM),(hO _).1 6 (.inr (.inr (.inr (.inr (.inr (.inl ⟨rfl,.inl rfl⟩)))))),(hO _).1 6 (.inr (.inr (.inr (.inr (.inr (.inl ⟨rfl,.inr rfl⟩))))))⟩,λ_=>⟨⟨C,Q,hcb.keep hfce (λy hy=>hcx _ (by have:=hvb y hy;omega)),hCl,λi cs r h1 h2=>(hQb i cs r h1 h2).keep hfce (λy hy=>hcx _ (by have:=hQl y hy;omega)),λy hy=>⟨(hO y).1 7 (.inr (.inr (.inr (.inr (.inr (.inr ⟨rfl,.inl hy⟩)))))),by have:=hQl y hy;show y≠mt;omega⟩,λy hy=>⟨(hO y).1 7 (.inr (.inr (.inr (.inr (.inr (.inr ⟨rfl,.inr (.inl hy)⟩)))))),by have:=hvb y hy;show y≠mt;omega⟩⟩,⟨CellsAt.aT (World.ownsRow_nil we 0 3 1),λy hy=>by cases hy⟩,⟨[],hT7.keep hfce (hcx _ oM),λn=>rfl⟩,(hO _).1 7 (.inr (.inr (.inr (.inr (.inr (.inr ⟨rfl,.inr (.inr rfl)⟩))))))⟩,λi s _ hi=>?_,λ_=>hxe⟩,λy hy=>?_,(hO _).1 0 (.inl ⟨rfl,rfl⟩),rfl,hmo,λ_=>rfl,rfl⟩,⟨rfl,rfl,rfl⟩,λy hy=>?_,?_⟩
    ·have hs:i<8/\s=M.seat0:=by
      have h1:(List.replicate 8 M.seat0)[i]?=some s:=hi;rw[Ng] at h1;split at h1
      ·cases h1;exact⟨by assumption,rfl⟩
      ·cases h1
     obtain⟨h8,rfl⟩:=hs;refine⟨seC i M.seat0 nl np,?_,nl,np,rfl,CellsAt.aT (World.ownsRow_nil we 0 23 2),(λy hy=>by cases hy),rfl⟩;rw[F8,Nr h8];show some (seC (if i<8 then i else 0) M.seat0 nl np)=_;rw[I9 h8]
    ·obtain⟨c1,hc1⟩:=(hO y).2 hy;rcases hc1 with⟨_,rfl⟩|⟨_,h⟩|⟨_,h⟩|⟨_,h⟩|⟨_,h⟩|⟨_,h⟩|⟨_,h⟩
     ·exact zx
     ·have:=hSY y h;omega
     ·rcases h with rfl|rfl|rfl<;>omega
     ·rcases h with rfl|rfl<;>omega
     ·rw[h];exact aj hi8'
     ·rcases h with rfl|rfl<;>omega
     ·have:=h7 y h;omega
    ·obtain⟨c1,hc1⟩:=(hO y).2 hy;have z57:=hf57.size;rcases hc1 with⟨_,rfl⟩|⟨_,h⟩|⟨_,h⟩|⟨_,h⟩|⟨_,h⟩|⟨_,h⟩|⟨_,h⟩
     ·exact .inr oM
     ·rcases h with e|e|e|e|e
      ·exact .inr (by have:=hXl y e;omega)
      ·exact .inr (by have:=hXp y e;omega)
      ·exact .inl (.inl e)
      ·exact .inl (.inr (.inl e))
      ·exact .inl (.inr (.inr e))
     ·exact .inr (by rcases h with rfl|rfl|rfl<;>omega)
     ·exact .inr (by rcases h with rfl|rfl<;>omega)
     ·exact .inr oM
     ·exact .inr (by rcases h with rfl|rfl<;>omega)
     ·exact .inr (by have:=h7 y h;omega)
    ·exact(((hF4.mono (λ_ _ e=>e.elim)).trans hf5 (λ_ _ e=>e) (λ_ _ e=>e)).trans hfle (λ_ _ e=>e) (λy hy e=>by
      rcases e with rfl|rfl
      ·omega
      ·omega))
  ·intro kk hkk;have hda:=Fm.drew F0 wa;refine⟨λwx=>Fm F0 wa.drew wx,Fm.refl _ _,.agg (ctC c),λwx hx=>?_,iv (M.findP rs 2),λwx hx=>?_,iv 1,λwx hx=>?_,nl,λwx hx=>?_,?_⟩
   ·simp only[RU,aa (n:=7) (hx.heap (hda.heap hba (λe=>e)) (λe=>e)) rfl,I2]
   ·simp only[RU,ab (hx.heap (hda.heap hwa (λe=>e)) (λe=>e)),I2]
   ·simp only[RU,ab (hx.heap (hda.heap hwa (λe=>e)) (λe=>e)),I2]
   ·simp only[RU,ab (hx.heap (hda.heap hwa (λe=>e)) (λe=>e)),I2]
   refine Mr (λ_ h=>h) (λwb v3 v4 v6 v7 a3 b3 a4 b4 a6 b6 a7 b7 p3 p4 p6 p7 hdj hlo hhi hfb=>?_);have e3:=p3;have e4:=p4;have e6:=p6;have e7:=p7;obtain⟨kb,_,_,rfl,_⟩:=e3;obtain⟨tb,_,rfl,_⟩:=e4;obtain⟨sb,_,rfl,_⟩:=e6;obtain⟨mt,rfl,_⟩:=e7;refine bst (egC [pv b,iv c.frames,iv c.m,iv c.secs,iv c.pages,iv 1,iv 1,iv 0,pv lb,pv pb,iv 0,iv 0,iv 0,iv 0,es,nl,pv kb,pv tb,pv ib,pv sb,iv (M.findP rs 2),iv 1,.bool false] (ssK 0) [.bool false,iv 0,iv 0,nl,nl,.map (some mt),nl,iv 0]).toArray ⟨rfl,?_⟩;refine ae ?_;rintro x wx rfl hsx hwx hfx;have hcell:∀a:Array Value,(Value.agg a).cells=a:=λ_=>by kernel_rfl
   rw[hcell] at hwx;have zfb:=hfb.size;rw[aN] at hlo zfb;exact hkk _ _ ⟨_,_,_,_,_,a3,b3,a4,b4,a6,b6,a7,b7,rfl,⟨hwx,rfl,rfl,λs hs=>by
    obtain⟨i,_,rfl⟩:=G0.1 hs
    rfl,rfl⟩,p3.keep hfx,p4.keep hfx,p6.keep hfx,p7.keep hfx,hdj,hlo,hhi,zfb,Fmf (Fmf hda hfb) hfx⟩
 ·intro kk hkk;have hs1:slS (stv (az 64++jw c)) none (some (iv 64))=some (stv (az 64)):=(gX (l:=az 64++jw c) (i:=64) (by rw[D9,show(az 64).length=64 from rfl];omega) .i64).trans (by rw[List.take_left' (show(az 64).length=64 from rfl)]);have hs2:slS (stv (az 64++jw c)) (some (iv 64)) none=some (stv (jw c)):=(fG (l:=az 64++jw c) (i:=64) (by rw[D9,show(az 64).length=64 from rfl];omega) .i64).trans (by rw[NU (show(az 64).length=64 from rfl)]);simp only[RU,hs1,hs2];have hd:=Fm.drew F0 w;refine⟨(lN hc).mono ?_,?_,trivial⟩
  ·rintro _ w2 ⟨rfl,hf2⟩;simp only[RU];refine aF (us:=ctC c) (λw3 hs3 hw3 hf3=>?_) rfl rfl rfl;exact hkk _ _ ⟨_,rfl,hw3,Fmf (Fmf hd hf2) hf3,by have:=(Fmf hd hf2).size;exact this⟩
  ·refine ae ?_;rintro b1 w1 rfl hs1 hw1 hf1;rw[aN] at hs1 hw1 ⊢;refine(lN hc).mono ?_;rintro _ w2 ⟨rfl,hf2⟩;simp only[RU];refine aq (hf2.heap hw1 (λe=>e)) (λw3 hw3 hs3 hf3=>?_) rfl rfl rfl;exact hkk _ _ ⟨_,rfl,hw3,Fm.own (Fmf (Fmf hd hf1) hf2) hf3 (λy e=>by rw[e];exact E4 _),E4 _⟩
end
section
variable{e e' e1:E}{i:Nat}{n:Int}{p:Pg}{r:Rc}{s:Seat}
theorem AD(hq:M.release e n=some e'):e'.phase=e.phase:=by unfold M.release at hq;obtain⟨_,_,hq⟩:=bind_some hq;cases hq;rfl
theorem Ei(hq:M.reserve e n=some e'):e'.phase=e.phase:=by obtain⟨_,rfl⟩:=jV hq;rfl
theorem uL(hq:M.fetch e n=some (e',p)):e'.phase=e.phase:=by obtain⟨_,rfl⟩:=mV hq;rfl
theorem Ij(hq:M.lay e n p=some e'):e'.phase=e.phase:=by unfold M.lay at hq;obtain⟨_,_,hq⟩:=bind_some hq;obtain⟨_,_,hq⟩:=bind_some hq;cases hq;rfl
theorem BD{who free:Int}(hq:M.wr e who r free=some e'):e'.phase=e.phase:=by
 unfold M.wr at hq;obtain⟨t,_,hq⟩:=bind_some hq;obtain⟨n,_,hq⟩:=bind_some hq;obtain⟨⟨e1,r1,q⟩,hb,hq⟩:=bind_some hq;obtain⟨_,_,hq⟩:=bind_some hq;obtain⟨e2,hr,hq⟩:=bind_some hq;obtain⟨e3,hl,hq⟩:=bind_some hq;obtain⟨_,_,hq⟩:=bind_some hq;obtain⟨tx,_,hq⟩:=bind_some hq;have h1:e1.phase=e.phase:=by
  unfold M.behind at hb;split at hb
  ·obtain⟨_,_,e⟩:=E9.1 hb;cases e;rfl
  ·obtain⟨⟨ex,p⟩,hf,hb⟩:=bind_some hb;obtain⟨_,_,hb⟩:=bind_some hb;cases hb;exact uL hf
  ·cases hb
 have h2:e2.phase=e1.phase:=by
  cases hu:M.undoes r1 with
  | true=>rw[hu] at hr;exact Ei hr
  | false=>rw[hu] at hr;cases hr;rfl
 exact(Ij hq).trans ((AD hl).trans (h2.trans h1))
theorem Gb{c n:Int}(hq:M.roomFor e i c=some (e1,n)):e1.phase=e.phase:=by
 unfold M.roomFor at hq;split at hq
 ·obtain⟨_,_,hq⟩:=bind_some hq;cases hq;rfl
 ·obtain⟨_,_,hq⟩:=bind_some hq;obtain⟨_,_,hq⟩:=bind_some hq;obtain⟨e2,hw,hq⟩:=bind_some hq;obtain⟨_,_,hq⟩:=bind_some hq;cases hq;exact(BD hw:e2.phase=e.phase)
theorem oC(hq:M.close e i n=some e'):e'.phase=e.phase:=by unfold M.close at hq;obtain⟨_,_,hq⟩:=bind_some hq;obtain⟨_,_,hq⟩:=bind_some hq;obtain⟨e1,h1,hq⟩:=bind_some hq;cases hq;have h:=AD h1;exact h
theorem AR{q:Pn}(hq:M.show_ e i q=some e'):e'.phase=e.phase:=by
 unfold M.show_ at hq;obtain⟨⟨e1,b⟩,h1,hq⟩:=bind_some hq;obtain⟨v,_,hq⟩:=bind_some hq;obtain⟨⟨p1,rr⟩,_,hq⟩:=bind_some hq;have h1:=uL h1;cases rr with
 | none=>cases hq;exact h1
 | some r=>obtain⟨e2,h2,hq⟩:=bind_some hq;obtain⟨_,_,hq⟩:=bind_some hq;cases hq;exact(BD h2).trans h1
theorem Cy(hq:M.ended e i=some e'):e'.phase=e.phase:=by
 unfold M.ended at hq;obtain⟨p,_,hq⟩:=bind_some hq;cases h4:decide (p.wk=4)<;>rw[h4] at hq
 ·cases hq;rfl
 ·cases h0:decide (p.rep.err=0)<;>rw[h0] at hq
  ·obtain⟨_,_,hq⟩:=bind_some hq;obtain⟨_,_,hq⟩:=bind_some hq;cases hq;rfl
  ·obtain⟨_,_,hq⟩:=bind_some hq;cases hq;rfl
theorem qF(hq:M.follow e i=some e'):e'.phase=e.phase:=by
 unfold M.follow at hq;obtain⟨_,_,hq⟩:=bind_some hq;obtain⟨p,_,hq⟩:=bind_some hq;obtain⟨e1,h1,hq⟩:=bind_some hq;refine(Cy hq).trans ?_;split at h1
 ·obtain⟨⟨e2,r⟩,h2,h1⟩:=bind_some h1;cases h1;show e2.phase=_;unfold M.tryK at h2;dsimp only at h2;cases hd:decide ((getD e.holds p.wkey).getD (i:Int)=(i:Int))<;>rw[hd] at h2
  ·obtain⟨b,_,h2⟩:=bind_some h2;cases b<;>cases h2<;>rfl
  ·cases h2;rfl
 ·obtain⟨⟨e2,r⟩,h2,h1⟩:=bind_some h1;have h:=AR h1;have h':=Gb h2;exact h.trans h'
 ·exact AR h1
 ·cases h1
theorem qk(hq:M.commit e i=some e'):e'.phase=e.phase:=by unfold M.commit at hq;obtain⟨_,_,hq⟩:=bind_some hq;have h:=BD hq;exact h
theorem AQ(hq:M.settle e i=some e'):e'.phase=e.phase:=by
 unfold M.settle at hq;obtain⟨e1,h1,hq⟩:=bind_some hq;obtain⟨t,_,hq⟩:=bind_some hq;obtain⟨e2,h2,hq⟩:=bind_some hq;cases hq;have h:=oC h2;refine Eq.trans (b:=e1.phase) h ?_;unfold M.flush at h1;cases hd:decide ((M.seatAt e i).end_<(e.s.l.last:Int))<;>rw[hd] at h1
 ·obtain⟨_,_,h1⟩:=bind_some h1;cases h1;rfl
 ·cases h1;rfl
theorem AK(hq:M.roll e i=some e'):e'.phase=e.phase:=by
 unfold M.roll at hq;obtain⟨t,_,hq⟩:=bind_some hq;obtain⟨⟨a,c⟩,_,hq⟩:=bind_some hq;cases c with
 | some u=>have h:=BD hq;exact h
 | none=>
  obtain⟨e2,h2,hq⟩:=bind_some hq;obtain⟨e3,h3,hq⟩:=bind_some hq;cases hq;have h:=oC h3;refine Eq.trans (b:=e2.phase) h ?_;cases hd:decide (t.last=0)<;>rw[hd] at h2
  ·have h:=BD h2;exact h
  ·have h:=AD h2;exact h
theorem BW(hq:M.begin e i=some e'):e'.phase=e.phase:=by
 unfold M.begin at hq;dsimp only at hq;split at hq
 ·obtain⟨_,_,hq⟩:=bind_some hq;cases hq;rfl
 ·obtain⟨t,_,hq⟩:=bind_some hq;cases hd:decide (t.last=0)<;>rw[hd] at hq
  ·have h:=qk hq;exact h
  ·obtain⟨_,_,hq⟩:=bind_some hq;obtain⟨e2,h2,hq⟩:=bind_some hq;cases hq;have h:=oC h2;exact h
 ·obtain⟨t,_,hq⟩:=bind_some hq;obtain⟨_,_,hq⟩:=bind_some hq;have h:=AK hq;exact h
 ·obtain⟨t,_,hq⟩:=bind_some hq;obtain⟨⟨e2,x⟩,h2,hq⟩:=bind_some hq;obtain⟨p,_,hq⟩:=bind_some hq;have h:=qF hq;refine Eq.trans (b:=e2.phase) h ?_;cases hd:(M.writes (M.seatAt e i).ask&&decide (t.xid=0))<;>rw[hd] at h2
  ·cases h2;rfl
  ·obtain⟨_,_,h2⟩:=bind_some h2;obtain⟨e3,h3,h2⟩:=bind_some h2;cases h2;have h:=Ei h3;exact h
theorem Gy(hq:M.stepM e i=some e'):e'.phase=e.phase:=by
 unfold M.stepM at hq;split at hq
 ·exact BW hq
 ·exact qF hq
 ·exact qk hq
 ·exact AQ hq
 ·exact AK hq
 ·cases hq
end
open M (E Seat Wk Pn Rp Ak Tx Ctl)
section
variable{w w' w1 w2:World}{P:Nat->Prop}{t:Nat}{B:Bk}{e e' e1:E}{i:Nat}{n k:Int}{r:Rp}{a:Ak}
def TW(w:World)(P:Nat->Prop)(t:Nat)(B:Bk)(e:E):Prop:=∃O u rv yv ss cs,RP w O B e u rv yv ss/\w.heap[t]?=some (.cells cs 44)/\(cs.size=12/\cs[0]?=some (pv B.db)/\cs[1]?=some (pv B.x))/\(∀y,P y->O y=99/\y<w.heap.size)/\O t=99/\¬P t
theorem TW.aS(h:TW w P t B e)(hf:Fm F0 w w'):TW w' P t B e:=by obtain⟨O,u,rv,yv,ss,cs,h1,h2,h3,h4,h5⟩:=h;exact⟨O,u,rv,yv,ss,cs,h1.aS hf,hf.heap h2 id,h3,λy hy=>⟨(h4 y hy).1,E7 (h4 y hy).2 hf.size⟩,h5⟩
theorem TW.run{g:FuncId}{args:List Value}{Q:Value->World->Prop}(h:TW w P t B e)(H:∀O u rv yv ss,RP w O B e u rv yv ss->(∀y,P y->O y=99)->Cl prog g args w λo w'=>Q o w'/\Ex O w B e' w'):Cl prog g args w λo w'=>Q o w'/\TW w' P t B e'/\Fm (λy=>¬P y) w w':=by obtain⟨O,u,rv,yv,ss,cs,h1,h2,h3,h4,h5,h6⟩:=h;refine(H O u rv yv ss h1 (λy hy=>(h4 y hy).1)).mono ?_;rintro o w' ⟨hQ,O',u',rv',yv',ss',h',s⟩;exact⟨hQ,⟨O',u',rv',yv',ss',cs,h',s.f.heap h2 (λe=>e h5),h3,λy hy=>⟨s.free (h4 y hy).2 (h4 y hy).1,E7 (h4 y hy).2 s.f.size⟩,s.free (aj h2) h5,h6⟩,s.f.mono λy _ e hp=>e (h4 y hp).1⟩
theorem TW.x(h:TW w P t B e):w.cell? ⟨t,1,none⟩=some (pv B.x):=by obtain⟨O,u,rv,yv,ss,cs,h1,h2,h3,h4⟩:=h;rw[ab h2];exact h3.2.2
theorem TW.d(h:TW w P t B e):w.cell? ⟨t,0,none⟩=some (pv B.db):=by obtain⟨O,u,rv,yv,ss,cs,h1,h2,h3,h4⟩:=h;rw[ab h2];exact h3.2.1
theorem TW.last(h:TW w P t B e){x:Value}{k:KV}(hx:x.oneCell'=true)(hk:∀w',TW w' P t B e->Fm (·=t) w w'->k undef w'):St 1 w (.pointer (some ⟨t,11,none⟩)) x k:=by obtain⟨O,u,rv,yv,ss,cs,h1,h2,h3,h4,h5,h6⟩:=h;refine ax h2 (j:=11) oM hx λw' hw hs hf=>hk w' ⟨O,u,rv,yv,ss,_,h1.iF h5 hf,hw,⟨by rw[Np];exact h3.1,by rw[Nq dC];exact h3.2.1,by rw[Nq dC];exact h3.2.2⟩,λy hy=>⟨(h4 y hy).1,E7 (h4 y hy).2 hf.size⟩,h5,h6⟩ hf
theorem TW.lt(h:TW w P t B e):t<w.heap.size:=by obtain⟨O,u,rv,yv,ss,cs,h1,h2,h3,h4⟩:=h;exact aj h2
theorem TW.ft(h:TW w P t B e)(hf:Fm (·=t) w1 w2):Fm (λy=>¬P y) w1 w2:=by obtain⟨O,u,rv,yv,ss,cs,h1,h2,h3,h4,h5,h6⟩:=h;exact hf.mono λy _ e hp=>h6 (e▸hp)
theorem TW.A3(h:TW w P t B e)(hf:Fm F0 w w'){P':Nat->Prop}(hb:∀y,P' y->w.heap.size<=y/\y<w'.heap.size):TW w' (λy=>P y\/P' y) t B e:=by have hl:=h.lt;obtain⟨O,u,rv,yv,ss,cs,h1,h2,h3,h4,h5,h6⟩:=h;exact⟨O,u,rv,yv,ss,cs,h1.aS hf,hf.heap h2 id,h3,λy hy=>hy.elim (λhy=>⟨(h4 y hy).1,E7 (h4 y hy).2 hf.size⟩) (λe=>⟨h1.free (hb y e).1,(hb y e).2⟩),h5,λe=>e.elim h6 (λe=>by have:=(hb t e).1;omega)⟩
theorem TW.add(h:TW w P t B e)(hf:Fm F0 w w'){b:Nat}(hb:w.heap.size<=b)(hb1:b<w'.heap.size):TW w' (λy=>P y\/y=b) t B e:=h.A3 hf (λy e=>by rw[e];exact⟨hb,hb1⟩)
theorem TW.loc(h:TW w P t B e)(hf:Fm P w w'):TW w' P t B e:=by obtain⟨O,u,rv,yv,ss,cs,h1,h2,h3,h4,h5,h6⟩:=h;exact⟨O,u,rv,yv,ss,cs,h1.o6 (hf.mono λy _ hy=>(h4 y hy).1),hf.heap h2 h6,h3,λy hy=>⟨(h4 y hy).1,E7 (h4 y hy).2 hf.size⟩,h5,h6⟩
theorem TW.oF(h:TW w P t B e)(hi:i<8):e.seats[i]?=some (M.seatAt e i):=by obtain⟨O,u,rv,yv,ss,cs,h1,h2,h3,h4,h5,h6⟩:=h;exact h1.fF hi
theorem vw(h:M.runM e k=some e'):M.runN e 0 k=some e':=by
 unfold M.runM at h;unfold M.runN;split at h
 ·rename_i i l hl;have h0:nt (M.runnable e).length 0=0:=by
   have hp:(0:Int)<((M.runnable e).length:Nat):=by rw[hl,G7];omega
   unfold nt;rw[Int.zero_tmod,Int.zero_add,Int.tmod_self];rfl
  rw[h0,hl];exact h
 ·cases h
theorem tP(h:M.runN e n k=some e'):e'.phase=e.phase:=by
 unfold M.runN at h;split at h
 ·have h:=Gy h;exact h
 ·cases h
theorem bM{w w1 w2:World}(f:Fm (λy=>¬P y) w w1)(g:Fm (λy=>¬P y) w1 w2):Fm (λy=>¬P y) w w2:=f.trans g iT iT
theorem t0{w w1:World}(f:Fm F0 w w1):Fm (λy=>¬P y) w w1:=f.mono λ_ _ e=>e.elim
theorem gl(h:TW w P t B e)(h5:e.phase=5)(hi:i<8)(ha:1<=a.call/\a.call<=9)(hq:M.alone e i a=some (e',r)):Cl prog 9 [pv t,iv i,.agg (akC a)] w λo w'=>o=.bool (decide (r.err=0))/\TW w' P t B e'/\e'.phase=5/\Fm (λy=>¬P y) w w':=by
 unfold M.alone at hq;obtain⟨e0,h0,hq⟩:=bind_some hq;have hp0:e0.phase=5:=by
  unfold M.ask at h0;split at h0
  ·cases h0;exact h5
  ·cases h0
 refine cU3 func9 ?_ (V [(6,[7])]);refine ae ?_;rintro b1 w1 rfl hs1 hw1 hf1;refine(h.aS hf1).last rfl λw2 h2 hf2=>?_;have hft:=h.ft hf2;have hd:=Fm.drew F0 w2;have hb2:=hf2.heap hw1 (by have:=h.lt;omega);simp only[RU,h2.x,aa (n:=5) (hd.heap hb2 id) rfl];refine((h2.aS hd).run (Q:=λo _=>o=iv 0) (λO u rv yv ss hR hP=>ox hR h5 hi ha h0)).mono ?_;rintro _ w3 ⟨rfl,h3,hf3⟩;simp only[RU,show((0:Int) != 0)=false from rfl];have hF3:Fm (λy=>¬P y) w w3:=bM (bM (bM (t0 hf1) hft) (t0 hd)) hf3;refine⟨λvs w4=>∃(k:Nat) (ek:E),vs=[iv k]/\k<=40/\TW w4 P t B ek/\ek.phase=5/\M.aloneGo i (40 - k) k ek=some (e',r)/\Fm (λy=>¬P y) w w4,λvs _=>(40 - nth vs 0).toNat,⟨0,e0,rfl,K3 _,h3,hp0,hq,hF3⟩,?_⟩;rintro w4 v1 ⟨k,ek,hvs,hk,h4,hp4,hq4,hF4⟩;cases hvs;obtain⟨f,hf⟩:∃f,40 - k=f+1:=by
  cases hz:40 - k with
  | zero=>rw[hz] at hq4;cases hq4
  | succ f=>exact⟨f,rfl⟩
 rw[hf,M.aloneGo] at hq4;simp only[RU,h4.x];cases hr:M.replyM ek i with
 | some x=>
  obtain⟨e5,r5⟩:=x;rw[hr] at hq4;cases hq4;refine(h4.run (Q:=λo w'=>∃rr,o=.tuple #[.agg (rpC r rr),.bool true]/\CellsAt w' rr r.rows.length 2 (r.rows.flatMap rowL)) (λO u rv yv ss hR hP=>(hU hR (h4.oF hi) hr).mono (by rintro o w' ⟨rr,h1,h2,_,h3⟩;exact⟨⟨rr,h1,h2⟩,h3⟩))).mono ?_;rintro _ w5 ⟨⟨rr,rfl,hrr⟩,h5',hf5⟩;simp only[RU];refine aF (us:=rpC r rr) (λw6 hs6 hw6 hf6=>?_) rfl rfl (by simp[gY hrr];exact⟨rfl,rfl,rfl⟩);have h6:=h5'.aS hf6;simp only[RU,ab hw6];refine h6.last rfl λw7 h7 hf7=>?_;simp only[RU,ab (hf7.heap hw6 (by have:=h5'.lt;omega))];refine⟨rfl,h7,?_,bM (bM (bM hF4 hf5) (t0 hf6)) (h6.ft hf7)⟩;unfold M.replyM at hr;cases ht:(M.seatAt ek i).told<;>rw[ht] at hr
  ·cases hr
  ·cases hr;exact hp4
 | none=>
  rw[hr] at hq4;obtain⟨e5,hrun,hq4⟩:=bind_some hq4;have ht:(M.seatAt ek i).told=false:=by
   unfold M.replyM at hr;cases ht:(M.seatAt ek i).told with
   | false=>rfl
   | true=>rw[ht] at hr;cases hr
  have hn:Cl prog 12 [pv B.x,iv i] w4 λo w'=>o=.tuple #[.agg (rpC M.rp0 nl),.bool false]/\Fm F0 w4 w':=by obtain⟨O,u,rv,yv,ss,cs,hR,_⟩:=id h4;exact jH hR (h4.oF hi) ht
  refine hn.mono ?_;rintro _ w5 ⟨rfl,hf5⟩;simp only[RU];refine aF (us:=rpC M.rp0 nl) (λw6 hs6 hw6 hf6=>?_) rfl rfl rfl;have h6:=h4.aS (Fmf hf5 hf6);simp only[RU,h6.x];refine(h6.run (Q:=λo _=>∃x,o=.tuple #[x,iv 0]) (λO u rv yv ss hR hP=>py hR hp4 (vw hrun))).mono ?_;rintro _ w7 ⟨⟨x,rfl⟩,h7,hf7⟩;simp only[RU,show((0:Int) != 0)=false from rfl,show IntKind.i64.wrap ((k:Int)+1)=((k+1:Nat):Int) by rw[af]<;>omega];refine⟨⟨k+1,e5,rfl,oM,h7,(tP (vw hrun)).trans hp4,?_,bM (bM hF4 (t0 (Fmf hf5 hf6))) hf7⟩,by simp only[bl];omega⟩;rw[(oM:40 - (k+1)=f)];exact hq4
end
section
variable{w w' w1 w2:World}{P:Nat->Prop}{t b g m:Nat}{B:Bk}{e e' e1:E}{i:Nat}{n k:Int}{r:Rp}{a:Ak}{c:Ctl}{d d':Go.Al.Dk}
theorem nD(h:DAt w b g m d)(hc:fI c=true)(hq:M.opensM d c=some e):Cl prog 18 [pv b] w λo w'=>∃B O u rv yv ss,o=pv B.x/\RP w' O B e u rv yv ss/\(B.db=b/\B.g=g/\B.m=m)/\(∀y,O y≠99->Dm b g m y\/w.heap.size<=y)/\Fm (Dm b g m) w w'/\e.phase=5:=by
 unfold M.opensM at hq;obtain⟨e0,h0,hq⟩:=bind_some hq;refine cU1 func18 ?_ (V [(5,[5])]);refine(tj h hc h0).mono ?_;rintro _ w1 ⟨B,O,u,rv,yv,ss,rfl,hR,hB,hO,hf1⟩;simp only[RU,show((0:Int) != 0)=false from rfl];refine⟨λvs w4=>∃(k:Nat) (ek:E),vs=[iv k]/\k<=60/\M.readyGo (60 - k) k ek=some e/\Fm (Dm b g m) w w4/\∃O u rv yv ss,RP w4 O B ek u rv yv ss/\∀y,O y≠99->Dm b g m y\/w.heap.size<=y,λvs _=>(60 - nth vs 0).toNat,⟨0,e0,rfl,K3 _,hq,hf1,O,u,rv,yv,ss,hR,hO⟩,?_⟩;rintro w4 v1 ⟨k,ek,hvs,hk,hq4,hf4,O,u,rv,yv,ss,hR,hO⟩;cases hvs;obtain⟨f,hf⟩:∃f,60 - k=f+1:=by
  cases hz:60 - k with
  | zero=>rw[hz] at hq4;cases hq4
  | succ f=>exact⟨f,rfl⟩
 rw[hf,M.readyGo] at hq4;refine(eM hR).mono ?_;rintro _ w5 ⟨rfl,hf5⟩;have h5:=hR.aS hf5;have hF5:Fm (Dm b g m) w w5:=hf4.trans hf5 iT iE;by_cases hp:ek.phase=5
 ·rw[C9 hp,E3] at hq4;cases hq4;simp only[RU,C9 hp];exact⟨B,O,u,rv,yv,ss,rfl,h5,hB,hO,hF5,hp⟩
 ·rw[C8 hp,E1] at hq4;obtain⟨e5,h6,hq4⟩:=bind_some hq4;simp only[RU,C8 hp];refine(AN h5 hp h6).mono ?_;rintro _ w6 ⟨⟨x,rfl⟩,O',u',rv',yv',ss',hR6,s6⟩;simp only[RU,show((0:Int) != 0)=false from rfl,show IntKind.i64.wrap ((k:Int)+1)=((k+1:Nat):Int) by rw[af]<;>omega];refine⟨⟨k+1,e5,rfl,oM,by rw[(oM:60 - (k+1)=f)];exact hq4,hF5.trans s6.f iT (λy hy e=>(hO y e).elim id (λh=>oM)),O',u',rv',yv',ss',hR6,λy hy=>(s6.g.new y hy).elim (hO y) (λh=>.inr (G3 hF5.size h))⟩,by simp only[bl];omega⟩
theorem kU(hc:fI c=true)(h4:c.m % 4=0)(hq:M.beginM c=some e):Cl prog 16 [.agg (cfC c)] w λo w'=>∃t B,o=pv t/\TW w' (λy=>y<w.heap.size) t B e/\e.phase=5/\w.heap.size<=t/\(∃cs wv,w'.heap[t]?=some (.cells cs 44)/\cs=#[pv B.db,pv B.x,iv c.frames,iv c.m,iv c.secs,iv c.pages,nl,iv 0,wv,.bool true,.bool false,iv 0])/\Fm F0 w w':=by
 unfold M.beginM at hq;obtain⟨d,hd,hq⟩:=bind_some hq;refine cU1 func16 ?_;refine ae ?_;rintro b1 w1 rfl hs1 hw1 hf1;simp only[RU,aa (n:=4) hw1 rfl];refine(tR hc).mono ?_;rintro _ w2 ⟨rfl,hf2⟩;simp only[RU,show((0:Int) != 0)=false from rfl];refine(yW w2 (M.sectors c)).mono ?_;have hh:=hc;unfold fI at hh;simp only[E5,D8] at hh;rintro _ w3 ⟨_,hn⟩;obtain⟨b,g,m,rfl,hb,hg,hm,hD,hf3⟩:=hn (by unfold M.sectors;omega);have hF3:=Fmf (Fmf hf1 hf2) hf3;simp only[RU,show((0:Int) != 0)=false from rfl,aa (n:=4) ((Fmf hf2 hf3).heap hw1 id) rfl];refine(sV hD hc h4 hd).mono ?_;rintro _ w4 ⟨rfl,hD4,hf4⟩;have z12:=(Fmf hf1 hf2).size;have F4:Fm F0 w w4:=Fm.own hF3 hf4 (λy e=>by unfold Dm at e;omega);simp only[RU,show((0:Int) != 0)=false from rfl];refine(nD hD4 hc hq).mono ?_;rintro _ w5 ⟨B,O,u,rv,yv,ss,rfl,hR,hB,hO,hf5,hp⟩;have F5:Fm F0 w w5:=Fm.own F4 hf5 (λy e=>by unfold Dm at e;omega);have z2:=hf2.size;have hbb:∀y,Dm b g m y->¬y=w.heap.size:=λy e=>by unfold Dm at e;omega
 have k5:=hf5.heap (hf4.heap ((Fmf hf2 hf3).heap hw1 id) (λe=>hbb _ e rfl)) (λe=>hbb _ e rfl);have hd5:=Fm.drew F0 w5;simp only[RU];refine⟨λwx=>Fm F0 w5.drew wx,Fm.refl _ _,.agg (cfC c),λwx hx=>?_,?_⟩
 ·simp only[RU,aa (n:=4) (hx.heap (hd5.heap k5 id) id) rfl,I2]
 refine bsl 8 ((List.replicate 8 [.bool false,.bool false,.bool false,iv 0,nl,nl,.bool false,.int .u8 0,es,es,es,iv 0]).flatMap id).toArray 524 ?_;generalize hcl:((List.replicate 8 [.bool false,.bool false,.bool false,iv 0,nl,nl,.bool false,.int .u8 0,es,es,es,iv 0]).flatMap id).toArray=cl;have hfa:=Fm.alloc F0 w5.drew (.cells cl 524);refine⟨hfa,?_⟩;refine bst #[pv b,pv B.x,iv c.frames,iv c.m,iv c.secs,iv c.pages,nl,iv 0,.slice (some ⟨w5.drew.heap.size,0,none⟩) 8 8,.bool true,.bool false,iv 0] ⟨rfl,?_⟩;refine ae ?_;rintro t wt rfl hst hwt hft;have hcell:∀a:Array Value,(Value.agg a).cells=a:=λ_=>by kernel_rfl
 rw[hcell] at hwt;obtain⟨rfl,rfl,rfl⟩:=hB;have Ft:=Fmf (Fmf hd5 hfa) hft;have z5:=F5.size;have za:=(Fmf hd5 hfa).size;refine⟨_,B,rfl,⟨O,u,rv,yv,ss,_,hR.aS Ft,hwt,⟨rfl,rfl,rfl⟩,λy hy=>⟨?_,?_⟩,hR.free za,λe=>oM⟩,hp,oM,⟨_,_,hwt,rfl⟩,Fmf F5 Ft⟩
 ·apply I4;intro c;rcases hO y c with e|e
  ·unfold Dm at e;omega
  ·have:=F4.size;omega
 ·have:=Ft.size;omega
end
section
variable{w w' w1 w2:World}{P:Nat->Prop}{t b g m:Nat}{B:Bk}{e e' e1 e2 e3:E}{i:Nat}{n k:Int}{r r1 r2 r3:Rp}{a:Ak}{c:Ctl}{d d':Go.Al.Dk}
theorem TW.len(h:TW w P t B e):e.seats.length=8:=by obtain⟨O,u,rv,yv,ss,cs,h1,h2⟩:=h;exact h1.sl
theorem BS(hl:e.seats.length=8)(hi:i<8)(hq:M.ask e i a=some e'):M.replyM e' i=none:=by
 unfold M.ask at hq;split at hq
 ·cases hq;unfold M.replyM M.seatAt M.setSeat;rw[H4,MN oM]
  rfl
 ·cases hq
theorem um(h5:e.phase=5)(hq:M.ask e i a=some e'):e'.phase=5:=by
 unfold M.ask at hq;split at hq
 ·cases hq;exact h5
 ·cases hq
theorem vn(hq:M.replyM e i=some (e',r)):e'.phase=e.phase:=by
 unfold M.replyM at hq;cases ht:(M.seatAt e i).told with
 | false=>rw[ht] at hq;cases hq
 | true=>rw[ht] at hq;cases hq;rfl
theorem rR(hq:M.replyM e i=none):(M.seatAt e i).told=false:=by
 unfold M.replyM at hq;cases ht:(M.seatAt e i).told with
 | false=>rfl
 | true=>rw[ht] at hq;cases hq
theorem nM(h:TW w P t B e)(h5:e.phase=5)(hi:i<8)(hq1:M.alone e i (M.aw 1)=some (e1,r1))(hr1:r1.err=0)(hq2:M.alone e1 i { M.ak0 with call:=5,n:=16 }=some (e2,r2))(hr2:r2.err=0)(hl:r2.rows.length<16)(hq3:M.alone e2 i (M.aw 6)=some (e3,r3))(hr3:r3.err=0):Cl prog 13 [pv t,iv i] w λo w'=>∃rv,o=.tuple #[rv,.bool true]/\CellsAt w' rv r2.rows.length 2 (r2.rows.flatMap rowL)/\Fm (λy=>¬P y) w w':=by
 refine cU2 func13 ?_ (V [(10,[9,10]),(5,[6,7])]);refine bst (akC (M.aw 1)) ?_;refine(gl h h5 hi dC hq1).mono ?_;rintro _ w1 ⟨rfl,h1,p1,hf1⟩;simp only[RU,hr1];simp only[RU,show decide True=true from rfl];unfold M.alone at hq2;obtain⟨e0,h0,hq2⟩:=bind_some hq2;refine⟨λvs wx=>vs=[nl,es]/\wx=w1,λ_ _=>0,⟨rfl,rfl⟩,?_⟩;rintro w1 v1 v2 ⟨hvs,rfl⟩;cases hvs;simp only[RU,h1.x];refine bst (akC { M.ak0 with call:=5,n:=16 }) ?_;refine(h1.run (Q:=λo _=>o=iv 0) (λO u rv yv ss hR hP=>ox hR p1 hi (dC:1<=(5:Int)/\(5:Int)<=9) h0)).mono ?_;rintro _ w2 ⟨rfl,h2,hf2⟩;simp only[RU,show((0:Int) != 0)=false from rfl];refine ae ?_;rintro b3 w3 rfl hs3 hw3 hf3;have h3:=h2.add hf3 (E4 _) oM;have hnP:¬P w2.heap.size:=λe=>by obtain⟨_,_,_,_,_,_,_,_,_,hP,_⟩:=h2;have:=(hP _ e).2;omega
 have dn:∀{a b:World},Fm (λy=>¬(P y\/y=w2.heap.size)) a b->Fm (λy=>¬P y) a b:=λf=>f.mono λy _ e h=>e (.inl h);have ds:∀{a b:World},Fm (·=w2.heap.size) a b->Fm (λy=>¬P y) a b:=λf=>f.mono λy _ e h=>hnP (e▸h);refine⟨λvs w4=>∃k:Nat,k<=40/\Fm (λy=>¬P y) w w4/\((vs=[.bool false,iv k]/\(∃ek,TW w4 (λy=>P y\/y=w2.heap.size) t B ek/\ek.phase=5/\M.replyM ek i=none/\M.aloneGo i (40 - k) k ek=some (e2,r2))/\w4.heap[w2.heap.size]?=some (.cells (rpC M.rp0 nl) 49))\/(vs=[.bool true,iv k]/\TW w4 (λy=>P y\/y=w2.heap.size) t B e2/\e2.phase=5/\∃rr,w4.heap[w2.heap.size]?=some (.cells (rpC r2 rr) 49)/\CellsAt w4 rr r2.rows.length 2 (r2.rows.flatMap rowL))),λvs _=>(100 - nth vs 1).toNat,⟨0,K3 _,bM (bM hf1 hf2) (t0 hf3),.inl ⟨rfl,⟨e0,h3,um p1 h0,BS h1.len hi h0,hq2⟩,hw3⟩⟩,?_⟩;rintro w4 v3 v4 ⟨k,hk,hF4,⟨hvs,⟨ek,h4,p4,hr4,hq4⟩,hw4⟩|⟨hvs,h4,p4,rr,hw4,hrr⟩⟩
 ·cases hvs;obtain⟨f,hf⟩:∃f,40 - k=f+1:=by
   cases hz:40 - k with
   | zero=>rw[hz] at hq4;cases hq4
   | succ f=>exact⟨f,rfl⟩
  rw[hf,M.aloneGo,hr4] at hq4;obtain⟨e5,hrun,hq4⟩:=bind_some hq4;obtain⟨f',rfl⟩:∃f',f=f'+1:=by
   cases f with
   | zero=>cases hq4
   | succ f=>exact⟨f,rfl⟩
  simp only[RU,h4.x];refine(h4.run (Q:=λo _=>∃x,o=.tuple #[x,iv 0]) (λO u rv yv ss hR hP=>py hR p4 (vw hrun))).mono ?_;rintro _ w5 ⟨⟨x,rfl⟩,h5',hf5⟩;have p5:=(tP (vw hrun)).trans p4;have hw5:=hf5.heap hw4 (λe=>e (.inr rfl));simp only[RU,show((0:Int) != 0)=false from rfl,h5'.x];have wk:IntKind.i64.wrap ((k:Int)+1)=((k+1:Nat):Int):=by rw[af]<;>omega
  cases hr5:M.replyM e5 i with
  | none=>
   have hn:Cl prog 12 [pv B.x,iv i] w5 λo w'=>o=.tuple #[.agg (rpC M.rp0 nl),.bool false]/\Fm F0 w5 w':=by obtain⟨O,u,rv,yv,ss,cs,hR,_⟩:=id h5';exact jH hR (h5'.oF hi) (rR hr5)
   refine hn.mono ?_;rintro _ w6 ⟨rfl,hf6⟩;simp only[RU];refine aq (hf6.heap hw5 id) (λw7 hw7 hs7 hf7=>?_) rfl rfl rfl;have h7:=(h5'.aS hf6).loc (hf7.mono (λy _ e=>.inr e));simp only[RU,wk];exact⟨⟨k+1,oM,bM (bM (bM hF4 (dn hf5)) (t0 hf6)) (ds hf7),.inl ⟨rfl,⟨e5,h7,p5,hr5,by rw[(oM:40 - (k+1)=f'+1)];exact hq4⟩,hw7⟩⟩,by simp only[cX];omega⟩
  | some x=>obtain⟨e6,r6⟩:=x;rw[M.aloneGo,hr5] at hq4;cases hq4;refine(h5'.run (Q:=λo w'=>∃rr,o=.tuple #[.agg (rpC r2 rr),.bool true]/\CellsAt w' rr r2.rows.length 2 (r2.rows.flatMap rowL)/\∀y,blockOf rr=some y->¬(P y\/y=w2.heap.size)) (λO u rv yv ss hR hP=>(hU hR (h5'.oF hi) hr5).mono (by rintro o w' ⟨rr,q1,q2,q4,q3⟩;exact⟨⟨rr,q1,q2,λy hy c=>q4 y hy (hP y c)⟩,q3⟩))).mono ?_;rintro _ w6 ⟨⟨rr,rfl,hrr,hrb⟩,h6,hf6⟩;simp only[RU];refine aq (hf6.heap hw5 (λe=>e (.inr rfl))) (λw7 hw7 hs7 hf7=>?_) rfl rfl (by simp[gY hrr];exact⟨rfl,rfl,rfl⟩);have h7:=h6.loc (hf7.mono (λy _ e=>.inr e));simp only[RU,wk];exact⟨⟨k+1,oM,bM (bM (bM hF4 (dn hf5)) (dn hf6)) (ds hf7),.inr ⟨rfl,h7,(vn hr5).trans p5,rr,hw7,hrr.keep hf7 (λy hy e=>hrb y hy (.inr e))⟩⟩,by simp only[cX];omega⟩
 ·cases hvs;simp only[RU,ab hw4];have hro:∀u∈r2.rows.flatMap rowL,u.oneCell'=true:=λu hu=>by obtain⟨x,_,hx⟩:=N1.1 hu;simp[rowL] at hx;rcases hx with rfl|rfl<;>rfl
  obtain⟨v',w5,hr5,ho5,hf5⟩:=cK E27 dC (World.ownsRow_nil w4 w4.heap.size 23 2) hrr hro 27 (by unfold maxLen;omega) oM (E4 _);refine ag hr5 ?_
  replace hf5:Fm F0 w4 w5:=hf5.mono (λy _ e=>by cases e)
  rw[F7,I0] at ho5;have hw5:=hf5.heap hw4 id;have h5':=h4.A3 hf5 (P':=λy=>v'.ownBlock=some y) (λy hy=>aR ho5 y hy);simp only[RU,ab hw5,hr2,show((0:Int) != 0)=false from rfl,(hrr.keep hf5 iT).lenV,C9 (oM:((r2.rows.length:Nat):Int)<16),show((0:Int) == 0)=true from rfl];refine bst (akC (M.aw 6)) ?_;refine(gl h5' p4 hi (dC:1<=(6:Int)/\(6:Int)<=9) hq3).mono ?_;rintro _ w6 ⟨rfl,h6,p6,hf6⟩;simp only[RU,hr3];exact⟨v',rfl,(CellsAt.aT ho5).keep hf6 (λy hy e=>e (.inr (@blo v' y v' (bd (CellsAt.aT ho5)) hy))),bM (bM hF4 (t0 hf5)) (dn (hf6.mono λy _ e h=>e (.inl h)))⟩
end
section
variable{w w' w1 w2:World}{P:Nat->Prop}{t b g m:Nat}{B:Bk}{e e' e1 e2 e3:E}{i:Nat}{n k:Int}{r r1 r2 r3:Rp}{a:Ak}{c:Ctl}{d d':Go.Al.Dk}
theorem KE(x:Bs×Bs)(o1 o2:Operand)(w:World):(GU .neq 23 o1 o2 (.agg (rowL x).toArray) (.agg (rowL x).toArray)).run prog w=.ok (.bool false) w:=by
 have hS:prog.underlying 23=some (.struct (prog.fieldsOf 23)):=kR;have hp:prog.stoodInHeld 23=false:=kR;have hm:prog.eqGuardType prog.depth 23=false:=kR;have u9:=underlying9;unfold GU;rw[Sem.run_bind,run_eqGuard_agg w .neq 23 o1 o2 _ _ hm,Result.andThen_ok,run_neq_struct,show(10000:Nat)=9999+1 from rfl,run_equalIn_agg w 9999 23 _ _ hS hp];have a9:=isAgg9;have z9:=sizeOf9;simp only[Program.fieldsOf,underlying23];obtain⟨p1,p2⟩:=x
 go_simp
theorem mI{av bv:Value}{L:List (Bs×Bs)}(ha:CellsAt w av L.length 2 (L.flatMap rowL))(hb:CellsAt w bv L.length 2 (L.flatMap rowL)):Cl prog 14 [av,bv] w λo w'=>o=.bool true/\Fm F0 w w':=by
 have hle:L.length<=9223372036854775807:=by obtain⟨⟨a,c,_,h1,h2,_⟩,_⟩:=ha;unfold maxLen at h2;omega
 refine cU2 func14 ?_ (V [(4,[5])]);simp only[RU,ha.lenV,hb.lenV,(sI:(((L.length:Nat):Int) !=(L.length:Nat))=false)];refine⟨λvs wx=>∃k:Nat,vs=[iv k]/\k<=L.length/\Fm F0 w wx,λvs _=>(L.length - nth vs 0).toNat,⟨0,rfl,K3 _,Fm.refl _ _⟩,?_⟩;rintro w2 v1 ⟨k,hvs,hk,hf2⟩;cases hvs;by_cases hlt:k<L.length
 ·have e1:L[k]?=some L[k]:=E0 hlt;generalize L[k]=x at e1;have hd:=Fm.drew F0 w2;have F2:=Fmf hf2 hd;have rd:∀{v:Value},CellsAt w v L.length 2 (L.flatMap rowL)->∃ad,ixV 2 v (iv k)=some (.pointer (some ad))/\aJ w2.drew ad 2=some (.agg (rowL x).toArray):=λ{v} h=>by obtain⟨ad,k1,_,k2⟩:=(h.keep F2 iT).at dC hlt .i64;exact⟨ad,k1,aO (l:=rowL x) rfl λj hj=>by rw[k2 j hj,dy (f:=rowL) (λ_=>rfl) e1 hj]⟩
  obtain⟨ad1,a1,a2⟩:=rd ha;obtain⟨ad2,b1,b2⟩:=rd hb;simp only[RU,C9 (oM:(k:Int)<(L.length:Int)),a1,a2,b1,b2];refine ag (KE x _ _ _) ⟨rfl,?_⟩;simp only[RU,show IntKind.i64.wrap ((k:Int)+1)=((k+1:Nat):Int) by rw[af]<;>omega];exact⟨⟨k+1,rfl,hlt,F2⟩,by simp only[bl];omega⟩
 ·obtain rfl:k=L.length:=oM;simp only[RU,C8 (oM:¬((L.length:Nat):Int)<(L.length:Int))];exact hf2
theorem BT{eA eB eC eD eO eR e9:E}{r9:Rp}{x:E×Rp}(hb:M.beginM M.ctlA=some e)(hA:M.awake1 e=some eA)(hB:M.awake1 eA=some eB)(hC:(M.alone eB 1 (M.aw 1)).bind M.okR=some eC)(hD:(M.alone eC 1 { M.ak0 with call:=4,key:=[97] }).bind M.okR=some eD)(hO:M.opensM (eD.s.d.crash []) M.ctlA=some eO)(hR:(M.alone eO 2 (M.aw 1)).bind M.okR=some eR)(h9:M.alone eR 2 { M.ak0 with call:=5,n:=16 }=some (e9,r9))(hr:r9.err=0/\r9.rows=[([97],[49]),([98],[50])])(hX:M.alone e9 2 (M.aw 6)=some x)(hx:x.2.err=0):Cl prog 6 [] w λo w'=>o=.bool true/\Fm F0 w w':=by
 refine cU0 func6 ?_ (V [(5,[2])]);refine bst (cfC M.ctlA) ?_;refine(kU okA dC hb).mono ?_;rintro _ w1 ⟨t,B,rfl,h1,p1,_,_,hf1⟩;obtain⟨P,hP⟩:∃P:Nat->Prop,P=λy=>y<w.heap.size:=⟨_,rfl⟩;rw[<- hP] at h1;have al:∀{w2:World} {e e':E} {i:Nat} {a:Ak} {k:KV},TW w2 P t B e->e.phase=5->Fm (λy=>¬P y) w1 w2->i<8->(1<=a.call/\a.call<=9)->(M.alone e i a).bind M.okR=some e'->(∀w',TW w' P t B e'->e'.phase=5->Fm (λy=>¬P y) w1 w'->k (.bool true) w')->Cl prog 9 [pv t,iv i,.agg (akC a)] w2 k:=λ{w2 e e' i a k} h hp hf hi ha hq hk=>by obtain⟨⟨e1,r1⟩,h1,h2⟩:=MK.1 hq;unfold M.okR at h2;obtain⟨_,hg,h2⟩:=bind_some h2;cases h2;refine(gl h hp hi ha h1).mono ?_;rintro _ w' ⟨rfl,h3,p3,f3⟩;rw[an hg];exact hk w' h3 p3 (bM hf f3)
 simp only[RU];refine⟨λvs wx=>(vs=[iv 0]/\TW wx P t B e/\e.phase=5/\Fm (λy=>¬P y) w1 wx)\/(vs=[iv 1]/\TW wx P t B eA/\eA.phase=5/\Fm (λy=>¬P y) w1 wx)\/(vs=[iv 2]/\TW wx P t B eB/\eB.phase=5/\Fm (λy=>¬P y) w1 wx),λvs _=>(2 - nth vs 0).toNat,.inl ⟨rfl,h1,p1,Fm.refl _ _⟩,?_⟩;rintro w2 v1 (⟨hvs,h2,p2,hF2⟩|⟨hvs,h2,p2,hF2⟩|⟨hvs,h2,p2,hF2⟩)
 ·cases hvs;unfold M.awake1 at hA;obtain⟨f1,q1,hA⟩:=bind_some hA;obtain⟨f2,q2,hA⟩:=bind_some hA;obtain⟨f3,q3,q4⟩:=bind_some hA;simp only[RU,show decide ((0:Int)<2)=true from rfl];refine bst (akC (M.aw 1)) (al h2 p2 hF2 dC dC q1 λw3 h3 p3 hF3=>?_);simp only[RU];refine bst (akC (M.putA [97] [49])) (al h3 p3 hF3 dC dC q2 λw4 h4 p4 hF4=>?_);simp only[RU];refine bst (akC (M.putA [98] [50])) (al h4 p4 hF4 dC dC q3 λw5 h5 p5 hF5=>?_);simp only[RU];refine bst (akC (M.aw 6)) (al h5 p5 hF5 dC dC q4 λw6 h6 p6 hF6=>?_);simp only[RU,show IntKind.i64.wrap ((0:Int)+1)=1 from rfl];exact⟨.inr (.inl ⟨h6,p6,hF6⟩),dC⟩
 ·cases hvs;unfold M.awake1 at hB;obtain⟨f1,q1,hB⟩:=bind_some hB;obtain⟨f2,q2,hB⟩:=bind_some hB;obtain⟨f3,q3,q4⟩:=bind_some hB;simp only[RU,show decide ((1:Int)<2)=true from rfl];refine bst (akC (M.aw 1)) (al h2 p2 hF2 dC dC q1 λw3 h3 p3 hF3=>?_);simp only[RU];refine bst (akC (M.putA [97] [49])) (al h3 p3 hF3 dC dC q2 λw4 h4 p4 hF4=>?_);simp only[RU];refine bst (akC (M.putA [98] [50])) (al h4 p4 hF4 dC dC q3 λw5 h5 p5 hF5=>?_);simp only[RU];refine bst (akC (M.aw 6)) (al h5 p5 hF5 dC dC q4 λw6 h6 p6 hF6=>?_);simp only[RU,show IntKind.i64.wrap ((1:Int)+1)=2 from rfl];exact⟨.inr (.inr ⟨h6,p6,hF6⟩),dC⟩
 ·cases hvs;simp only[RU,show decide ((2:Int)<2)=false from rfl];refine bst (akC (M.aw 1)) (al h2 p2 hF2 dC dC hC λw3 h3 p3 hF3=>?_);simp only[RU];refine bst (akC { M.ak0 with call:=4,key:=[97] }) (al h3 p3 hF3 dC dC hD λw4 h4 p4 hF4=>?_);simp only[RU,h4.d];obtain⟨O,u,rv,yv,ss,cs,hR4,ht4,hc4,hP4,hO4,hPt⟩:=id h4;obtain⟨Xl,Xp,Q,F,hS,hSY⟩:=hR4.sys;have hdm:∀y,Dm B.db B.g B.m y->O y=1:=λy e=>hSY y (.inr (.inr e));refine(sK hS.hD (L:=[]) (CellsAt.aT (World.ownsRow_nil w4 0 3 1)) (λe=>absurd rfl e) (λf hf=>by cases hf)).mono ?_;rintro _ w5 ⟨rfl,hD5,hf5⟩;have ht5:=hf5.heap ht4 (λe=>by have:=hdm t e;rw[hO4] at this;cases this);simp only[RU,ab ht5,hc4.2.1];refine(nD hD5 okA hO).mono ?_;rintro _ w6 ⟨B',O',u',rv',yv',ss',rfl,hR6,⟨hB1,hB2,hB3⟩,hO6,hf6,p6⟩;have ht6:=hf6.heap ht5 (λe=>by have:=hdm t e;rw[hO4] at this;cases this);have hO6t:O' t=99:=by
   apply I4;intro c;rcases hO6 t c with e|e
   ·have:=hdm t e;rw[hO4] at this;cases this
   ·have:=aj ht5;omega
  refine ax ht6 (j:=1) oM rfl λw7 hw7 hs7 hf7=>?_;have hdP:∀y,Dm B.db B.g B.m y->¬P y:=λy e h=>by have h1:=hdm y e;rw[(hP4 y h).1] at h1;cases h1
  have hF7:Fm (λy=>¬P y) w1 w7:=bM (bM (bM hF4 (hf5.mono λy _ e=>hdP y e)) (hf6.mono λy _ e=>hdP y e)) (hf7.mono λy _ e h=>hPt (e▸h));have h7:TW w7 P t B' eO:=⟨O',u',rv',yv',ss',_,hR6.iF hO6t hf7,hw7,⟨by rw[Np];exact hc4.1,by rw[Nq dC,hB1];exact hc4.2.1,by rw[Array.getElem?_setIfInBounds_self_of_lt oM]⟩,λy hy=>⟨by
   apply I4;intro c;rcases hO6 y c with e|e
   ·exact hdP y e hy
   ·have:=(hP4 y hy).2;have:=hf5.size;omega,E7 (hP4 y hy).2 (G3 (G3 hf5.size hf6.size) hf7.size)⟩,hO6t,hPt⟩
  simp only[RU,h7.x];obtain⟨⟨f1,r1⟩,q1,q2⟩:=MK.1 hR;unfold M.okR at q2;obtain⟨_,hg,q2⟩:=bind_some q2;cases q2;obtain⟨e3,r3⟩:=x;refine(nM h7 p6 dC q1 (F9 (an hg)) h9 hr.1 (by rw[hr.2];decide) hX hx).mono ?_;rintro _ w8 ⟨rv8,rfl,hrv,hf8⟩;rw[hr.2] at hrv;simp only[RU];refine bst (rowL ([97],[49])).toArray (bst (rowL ([98],[50])).toArray ?_);refine bsl 2 ([([97],[49]),([98],[50])].flatMap rowL).toArray 23 ?_;have hfa:=Fm.alloc F0 w8 (.cells ([([97],[49]),([98],[50])].flatMap rowL).toArray 23);have hcs:CellsAt (w8.alloc (.cells ([([97],[49]),([98],[50])].flatMap rowL).toArray 23)) (.slice (some ⟨w8.heap.size,0,none⟩) 2 2) 2 2 ([([97],[49]),([98],[50])].flatMap rowL):=CellsAt.aT (dm (w:=w8) (e:=23) (sz:=2) (n:=2) (l:=[([97],[49]),([98],[50])].flatMap rowL) rfl (E4 _) dC);refine(mI (L:=[([97],[49]),([98],[50])]) (hrv.keep hfa iT) hcs).mono ?_;rintro _ w9 ⟨rfl,hf9⟩;simp only[RU];exact Fm.own hf1 (bM (bM hF7 hf8) (t0 (Fmf hfa hf9))) (λy hy=>by rw[hP] at hy;omega)
theorem mM(hq:M.awakeM=true):Cl prog 6 [] w λo w'=>o=.bool true/\Fm F0 w w':=by
 have some_of:∀{α β:Type} {f:α->Option β} {x:Option α} {y:β},(x >>= f)=some y->∃a,x=some a/\f a=some y:=λh=>bind_some h;unfold M.awakeM at hq;cases h3:M.awake3 with
 | none=>rw[h3] at hq;cases hq
 | some x=>
 obtain⟨e9,r9⟩:=x;rw[h3] at hq
 replace hq:(decide (r9.err=0)&&decide (r9.rows=[([97],[49]),([98],[50])])&&(match (M.alone e9 2 (M.aw 6)).bind M.okR with
  | some _=>true
  | none=>false))=true:=hq
 simp only[E5,D8] at hq;cases hX:(M.alone e9 2 (M.aw 6)).bind M.okR with
 | none=>rw[hX] at hq;cases hq.2
 | some y=>
 obtain⟨⟨f1,r1⟩,q1,q2⟩:=MK.1 hX;unfold M.okR at q2;obtain⟨_,hg,_⟩:=bind_some q2;unfold M.awake3 at h3;obtain⟨eD,h2,h3⟩:=some_of h3;obtain⟨eO,hO,h3⟩:=some_of h3;obtain⟨eR,hR,h3⟩:=some_of h3;unfold M.awake2 at h2;obtain⟨e0,hb,h2⟩:=some_of h2;obtain⟨eA,hA,h2⟩:=some_of h2;obtain⟨eB,hB,h2⟩:=some_of h2;obtain⟨eC,hC,h2⟩:=some_of h2;exact BT hb hA hB hC h2 hO hR h3 hq.1 q1 (F9 (an hg))
end
namespace M
abbrev Z:=Dk.zsec
structure DC (d : Dk) (l : List Bs) : Prop where
 cur : d.cur = l
 on : d.gone = false
 ar : d.armed = 0
theorem tk{d:Dk}(h:d.armed=0):d.tick={ d with done:=IntKind.i64.wrap (d.done+1) }:=by unfold Dk.tick;rw[I8 oM]
theorem Jh:∀(l A B C:List Bs) (d:Dk),B.length=l.length->DC d (A++(B++C))->∃d',d.wr A.length l=(d',0)/\DC d' (A++(l++C))
 | [],A,B,C,d,hb,h=>⟨d,rfl,by rw[H3 hb] at h;exact h⟩
 | x::l,A,[],C,d,hb,h=>by simp at hb
 | x::l,A,y::B,C,d,hb,h=>by have e0:(d.put A.length x).tick={ d.put A.length x with done:=IntKind.i64.wrap (d.done+1) }:=tk (d:=d.put A.length x) h.ar;obtain⟨d',e,h'⟩:=Jh l (A++[x]) B C ((d.put A.length x).tick) (by simpa using hb) ⟨by rw[e0];show d.cur.set A.length x=_;rw[h.cur];simp,by rw[e0];exact h.on,by rw[e0];exact h.ar⟩;refine⟨d',?_,by simpa using h'⟩;rw[Dk.wr,show((d.put A.length x).tick).gone=false by rw[e0];exact h.on];simpa using e
theorem cN:∀(k:Nat) (s:Bs),(Dk.chunks k s).length=k
 | 0,_=>rfl
 | k+1,s=>by rw[Dk.chunks,G7,cN]
theorem oB:∀k:Nat,Dk.chunks k (az (64*k))=List.replicate k Z
 | 0=>rfl
 | k+1=>by
  rw[Dk.chunks,(oM:64*(k+1)=64+64*k)];unfold az;rw[List.take_replicate,List.drop_replicate,M8 oM,Nat.add_sub_cancel_left,show List.replicate (64*k) (0:UInt8)=az (64*k) from rfl,oB k]
  rfl
theorem DY{d:Dk}{A B C:List Bs}(h:DC d (A++(B++C))):d.has (A.length:Nat) (B.length:Nat)=true:=by unfold Dk.has;rw[h.cur,D8];simp only[D9];omega
theorem jt{d:Dk}{A B C:List Bs}(h:DC d (A++(B++C))){s:Bs}(hs:s.length=64*B.length){a:Int}(ha:a=(A.length:Nat)):∃d',d.write a s=(d',0)/\DC d' (A++(Dk.chunks B.length s++C)):=by obtain⟨d',e,h'⟩:=Jh (Dk.chunks B.length s) A B C d (cN _ _).symm h;refine⟨d',?_,h'⟩;subst ha;unfold Dk.write;rw[h.on,hs,(oM:64*B.length % 64=0),(oM:64*B.length / 64=B.length),DY h,H7];exact e
def dkZ(l:List Bs)(z:Int):Dk:=⟨l,l,List.replicate l.length false,0,false,z⟩
theorem dkZ_c(l:List Bs)(z:Int):DC (dkZ l z) l:=⟨rfl,rfl,rfl⟩
theorem pE{d:Dk}{l:List Bs}(h:DC d l):∃z,d.sync=(dkZ l z,0):=by unfold Dk.sync;rw[h.on,tk h.ar,E1];simp only[h.on,E1];refine⟨IntKind.i64.wrap (d.done+1),?_⟩;unfold dkZ;simp only[h.cur,h.ar]
theorem AA{d:Dk}{A B C:List Bs}(h:DC d (A++(B++C))){a k:Int}(ha:a=(A.length:Nat))(hk:k=(B.length:Nat)):d.read a k=(B.flatten,0):=by
 subst ha hk;unfold Dk.read;rw[h.on,DY h,h.cur,H7,H7,List.drop_left,List.take_left]
 rfl
theorem cC(n:Nat):(az n).length=n:=by simp[az]
def pgs(c:Ctl):Bs:=(pEnc (clogNew c.m)).1++(pEnc { pg0 with kind:=3 }).1
def plainL:List Bs:=[Z]++([jw ctlP]++(List.replicate 3000 Z++(Dk.chunks 16 (pgs ctlP)++List.replicate 304 Z)))
theorem FM:(pgs ctlP).length=64*16:=kR
theorem yP:(jw ctlP).length=64:=kR
theorem dP(a b:Nat):List.replicate (a+b) Z=List.replicate a Z++List.replicate b Z:=by rw[List.replicate_append_replicate]
theorem formatP:∃z,formatM ctlP=some (dkZ plainL z):=by
 have h0:DC (Dk.mk0 3322) ([]++(List.replicate 2 Z++List.replicate 3320 Z)):=⟨by rw[I0,<- dP];rfl,rfl,rfl⟩;obtain⟨d1,e1,h1⟩:=jt h0 (s:=az 128) (a:=0) (by rw[cC,G6]) rfl;rw[G6,show az 128=az (64*2) from rfl,oB,I0,<- dP] at h1;have h1':DC d1 (List.replicate 3002 Z++(List.replicate 16 Z++List.replicate 304 Z)):=by rw[<- dP,<- dP];exact h1
 obtain⟨d2,e2,h2⟩:=jt h1' (s:=pgs ctlP) (a:=3002) (by rw[FM,G6]) (by rw[G6];rfl);rw[G6] at h2;have h2':DC d2 (List.replicate 2 Z++(List.replicate 3000 Z++(Dk.chunks 16 (pgs ctlP)++List.replicate 304 Z))):=by rw[<- H1,<- dP];exact h2
 obtain⟨d3,e3,h3⟩:=jt h2' (s:=az 192000) (a:=2) (by rw[cC,G6]) (by rw[G6];rfl);rw[G6,show az 192000=az (64*3000) from rfl,oB] at h3;obtain⟨z4,e4⟩:=pE h3;have h4:=dkZ_c (List.replicate 2 Z++(List.replicate 3000 Z++(Dk.chunks 16 (pgs ctlP)++List.replicate 304 Z))) z4;generalize dkZ _ z4=d4 at e4 h4;obtain⟨z5,e5⟩:=pE h4;have h5:=dkZ_c (List.replicate 2 Z++(List.replicate 3000 Z++(Dk.chunks 16 (pgs ctlP)++List.replicate 304 Z))) z5;generalize dkZ _ z5=d5 at e5 h5;have h5':DC d5 ([Z]++([Z]++(List.replicate 3000 Z++(Dk.chunks 16 (pgs ctlP)++List.replicate 304 Z)))):=h5;obtain⟨d6,e6,h6⟩:=jt h5' (s:=jw ctlP) (a:=1) (by rw[yP];rfl) rfl;have ec:Dk.chunks 1 (jw ctlP)=[jw ctlP]:=by rw[Dk.chunks,Dk.chunks,G4 (by rw[yP];exact E4 _)]
 have hf:iW d2 2 3000=true:=by
  unfold iW;rw[h2'.cur];simp only[D9,G6,cN]
  rfl
 rw[show([Z]:List Bs).length=1 from rfl,ec] at h6;obtain⟨z7,e7⟩:=pE h6;refine⟨z7,?_⟩;unfold formatM okD;rw[show(sectors ctlP).toNat=3322 from rfl,e1];show(okD (d1.write 3002 (pgs ctlP)) >>= λd=>okD (BJ d 2 3000) >>= λd=>okD d.sync >>= λd=>okD (d.write 1 (jw ctlP)) >>= λd=>okD d.sync)=_;rw[e2];show(okD (BJ d2 2 3000) >>= λd=>okD d.sync >>= λd=>okD (d.write 1 (jw ctlP)) >>= λd=>okD d.sync)=_;have ef:BJ d2 2 3000=(d4,0):=by unfold BJ;rw[hf,show((3000:Int)*64).toNat=192000 from rfl,e3,e4];rfl
 rw[ef];show(okD d4.sync >>= λd=>okD (d.write 1 (jw ctlP)) >>= λd=>okD d.sync)=_;rw[e5];show(okD (d5.write 1 (jw ctlP)) >>= λd=>okD d.sync)=_;rw[e6];show okD d6.sync=_;rw[e7];rfl
theorem IC{d:Dk}(h:DC d plainL){i:Nat}(hi:i<3000):d.read ((2+i:Nat):Int) 1=(Z,0):=by
 have e:plainL=([Z]++([jw ctlP]++List.replicate i Z))++([Z]++(List.replicate (2999 - i) Z++(Dk.chunks 16 (pgs ctlP)++List.replicate 304 Z))):=by
  unfold plainL;rw[(oM:3000=i+(1+(2999 - i))),dP,dP];simp only[H1]
  rfl
 rw[e] at h;rw[AA h (k:=1) (by simp only[D9,G7,J6,G6];omega) rfl]
 rfl
def FK(d:Dk):E:=⟨⟨wU 3002 40 5,⟨2,3000,1,[],1,1,0,[]⟩,d⟩,32,40,pg0,[],[],[],1,none,2,false,List.replicate 8 seat0,0,0,[],[],[],0⟩
theorem Je{d:Dk}(h:DC d plainL):∀(k i:Nat),i+k<=3000->dv 2 (List.replicate k Z) i false d=(false,d,0)
 | 0,_,_=>rfl
 | k+1,i,hi=>by
  rw[M5,dv,IC h (oM:i<3000),Je h k (i+1) oM]
  rfl
theorem openP{d:Dk}(h:DC d plainL):openM d ctlP=some (FK d):=by
 have e0:d.read 0 2=(az 64++jw ctlP,0):=by have h':DC d ([]++([Z,jw ctlP]++(List.replicate 3000 Z++(Dk.chunks 16 (pgs ctlP)++List.replicate 304 Z)))):=h;rw[AA h' (a:=0) (k:=2) rfl rfl];show(Z++(jw ctlP++[]),(0:Int))=_;rw[G9];rfl
 have er:bB d 2 3000 ((1 - 1) / 54) 3000 0 []=([],0):=by
  rw[bB];have:=IC h (i:=0) oM;rw[show((2+((1 - 1) / 54+0) % 3000:Nat):Int)=((2+0:Nat):Int) from rfl,this];have eo:Go.Proofs.YtmdmffeoehfjgaaGreatDoor.opened Z ((1 - 1) / 54+0)=[]:=kR;rw[eo]
  rfl
 have ea:dY d 2 3000 1=[]:=by unfold dY;rw[er];rfl
 have es:uZ d 2 3000 1=([],0):=by unfold uZ;rw[ea];kernel_rfl
 have el:pT d 2 3000 1=⟨2,3000,1,[],1,1,0,[]⟩:=by unfold pT;rw[es,ea];rfl
 have ew:(⟨2,3000,1,[],1,1,0,[]⟩:Lg).want=List.replicate 3000 Z:=rfl;have ee:nF d 2 3000 1=(d,0):=by
  have hf:iW d 2 3000=true:=by
   unfold iW;rw[h.cur];unfold plainL;simp only[D9,G6,cN,G7,J6]
   rfl
  unfold nF;rw[hf,h.on,show(1:Int).toNat=1 from rfl,show(2:Int).toNat=2 from rfl,show(3000:Int).toNat=3000 from rfl,er,el];show Lg.iO _ d=_;unfold Lg.iO Lg.iV;rw[ew];show(bif decide ((dv 2 (List.replicate 3000 Z) 0 false d).2.2=0) then _ else _)=_;rw[Je h 3000 0 oM]
  rfl
 have eg:(decide (sectors ctlP<=(d.cur.length:Nat))&&!d.gone)=true:=by
  rw[h.on,h.cur];unfold plainL;simp only[D9,G6,cN,G7,J6]
  rfl
 unfold openM;rw[eg,show ctlP.secs=3000 from rfl,e0,ee,show(3000:Int).toNat=3000 from rfl,el,es]
 rfl
end M
section
variable{w w' w1 w2:World}{P:Nat->Prop}{t b m:Nat}{B:Bk}{e e' e1 e2 e3:E}{i:Nat}{k:Int}{r r1 r2 r3:Rp}{a:Ak}{n:Nat}
theorem yd{k:KV}(h:TW w P t B e)(h5:e.phase=5)(hi:i<8)(ha:1<=a.call/\a.call<=9)(hq:M.ask e i a=some e')(hk:∀w',TW w' P t B e'->Fm (λy=>¬P y) w w'->k (iv 0) w'):Cl prog 10 [pv B.x,iv i,.agg (akC a)] w k:=by refine(h.run (Q:=λo _=>o=iv 0) (λO u rv yv ss hR hP=>ox hR h5 hi ha hq)).mono ?_;rintro _ w' ⟨rfl,h',hf⟩;exact hk w' h' hf
theorem BV{c:Ctl}{d:Go.Al.Dk}{e0:E}(h1:M.formatM c=some d)(h2:M.openM d c=some e0)(h3:M.readyGo 60 0 e0=some e):M.beginM c=some e:=by unfold M.beginM;rw[h1];show M.opensM d c=_;unfold M.opensM;rw[h2];exact h3
end
namespace M
theorem iR{n:Int}(h:n<=4611686018427387904):(bo n).length<=9:=aK oM
theorem EN{r:Rc}(hn:∀n∈gO r,n<=4611686018427387904)(hd:r.data.length<=200)(hs:r.slots=[])(hm:r.more=[])(hp:r.pages=[])(ht:r.txns=[])(hi:r.imgs=[]\/∃x,r.imgs=[x]/\x.1<=4611686018427387904/\pErr x.2=0):(eu r).length<=1000:=by
 have h1:(ck (gO r)).length<=9*10:=fT (λn h=>by have:=hn n h;omega);have h0:(bo (0:Int)).length<=9:=iR oM;have h11:(bo (1:Int)).length<=9:=iR oM;have hd':(bo (r.data.length:Int)).length<=9:=iR oM;unfold eu du eh;rw[hs,hm,hp,ht];simp only[D9,Na,J6,L4];have e0:(bo ((0:Nat):Int)).length<=9:=h0;have en:(ck []).length=0:=rfl;rcases hi with hi|⟨x,hi,hx,hp⟩
 ·rw[hi];simp only[J6,Na];omega
 ·rw[hi];have e1:(bo (([x]:List (Int×Pg)).length:Int)).length<=9:=h11;have e2:(bo x.1).length<=9:=iR hx;have e3:(fJ (pEnc x.2).1).length<=512:=(pJ (gD hp)).2;have e4:(bo ((fJ (pEnc x.2).1).length:Int)).length<=9:=iR oM;have e5:([x].flatMap si).length=(bo x.1).length+((bo ((fJ (pEnc x.2).1).length:Int)).length+(fJ (pEnc x.2).1).length):=by simp[si,du]
  rw[e5];omega
structure LO (l : Lg) (c : Nat) (r : Int) : Prop where
 frm : l.frm = 2
 n : l.n = 3000
 base : l.base = 1
 start : l.start = 1
 kept : l.kept.length ≤ c
 res : l.res = r
 last : 1 ≤ l.last ∧ l.last ≤ l.tail
theorem LO.tail{l:Lg}{c:Nat}{r:Int}(h:LO l c r):1<=l.tail/\l.tail<=c+1:=by unfold Lg.tail;rw[h.base];have:=h.kept;omega
theorem LO.room{l:Lg}{c:Nat}{r:Int}(h:LO l c r):(161892:Int) - c - r<=l.room:=by have:=h.tail;unfold Lg.room;rw[h.n,h.start,h.res];omega
theorem LO.reserve{l:Lg}{c:Nat}{r:Int}(h:LO l c r){k:Int}(hk:0<=k)(hr:k<=161892 - c - r):∃l',l.reserve k=(l',0)/\LO l' c (r+k)/\l'.tail=l.tail/\l'.last=l.last/\l'.recs=l.recs:=by refine⟨{ l with res:=l.res+k },?_,⟨h.frm,h.n,h.base,h.start,h.kept,by show l.res+k=_;rw[h.res],h.last⟩,rfl,rfl,rfl⟩;have:=h.room;unfold Lg.reserve;rw[C8 oM,C8 oM];rfl
theorem LO.release{l:Lg}{c:Nat}{r:Int}(h:LO l c r){k:Int}(hk:0<=k)(hr:k<=r):∃l',l.release k=(l',0)/\LO l' c (r - k)/\l'.tail=l.tail/\l'.last=l.last/\l'.recs=l.recs:=by refine⟨{ l with res:=l.res - k },?_,⟨h.frm,h.n,h.base,h.start,h.kept,by show l.res - k=_;rw[h.res],h.last⟩,rfl,rfl,rfl⟩;unfold Lg.release;rw[C8 oM,h.res,C8 oM];rfl
structure RO (r : Rc) : Prop where
 kind : 1 ≤ r.kind ∧ r.kind ≤ 13
 nums : ∀ n ∈ [r.prev, r.next, r.redo, r.xid, r.page, r.slot, r.old, r.new], 0 ≤ n ∧ n ≤ 100000
 data : r.data.length ≤ 200
 slots : r.slots = []
 more : r.more = []
 pages : r.pages = []
 txns : r.txns = []
 imgs : r.imgs = [] ∨ ∃ x, r.imgs = [x] ∧ 0 ≤ x.1 ∧ x.1 ≤ 100000 ∧ pErr x.2 = 0
theorem RO.check{r:Rc}(h:RO r){k:Nat}(h1:1<=k)(h2:k<=1000000):(rCheck (atR r k)).2=0/\(jG (atR r k)).1.length<=1008:=by
 have hn:=h.nums;simp only[H2,Nu,NL,forall_eq_or_imp,forall_eq] at hn;obtain⟨n1,n2,n3,n4,n5,n6,n7,n8⟩:=hn;have hk:=h.kind;have hb:(eu (atR r k)).length<=1000:=by
  refine EN ?_ h.data h.slots h.more h.pages h.txns ?_
  ·unfold gO atR;simp only[H2,Nu,NL,forall_eq_or_imp,forall_eq];omega
  ·rcases h.imgs with h|⟨x,h,a,b,c⟩
   ·exact .inl h
   ·exact .inr ⟨x,h,oM,c⟩
 have hb1:((rNums (atR r k)).any uq)=false:=by
  rw[List.any_eq_false];intro n hm;have:0<=n/\n<=4611686018427387904:=by
   unfold rNums at hm;rw[show(atR r k).slots=[] from h.slots,show(atR r k).more=[] from h.more,show(atR r k).pages=[] from h.pages,show(atR r k).txns=[] from h.txns] at hm;rcases h.imgs with h'|⟨x,h',a,b,c⟩
   ·rw[show(atR r k).imgs=[] from h'] at hm;simp only[prs,Na,List.map_nil,G9,H2,Nu,NL] at hm;unfold atR at hm;dsimp only at hm;rcases hm with rfl|rfl|rfl|rfl|rfl|rfl|rfl|rfl|rfl<;>omega
   ·rw[show(atR r k).imgs=[x] from h'] at hm;simp only[prs,Na,List.map_nil,K8,G9,K5,I0,H2,Nu,NL] at hm;unfold atR at hm;dsimp only at hm;rcases hm with rfl|rfl|rfl|rfl|rfl|rfl|rfl|rfl|rfl|rfl<;>omega
  unfold uq;rw[C8 oM,C8 oM];decide
 have hl:fi (atR r k)=false:=by
  have hd:=h.data;unfold fi;rw[show(atR r k).slots=[] from h.slots,show(atR r k).more=[] from h.more,show(atR r k).pages=[] from h.pages,show(atR r k).txns=[] from h.txns,show(atR r k).data=r.data from rfl,C8 oM];rcases h.imgs with h'|⟨x,h',a,b,c⟩
  ·rw[show(atR r k).imgs=[] from h'];rfl
  ·rw[show(atR r k).imgs=[x] from h'];rfl
 have hi:dL (atR r k).imgs=0:=by
  rcases h.imgs with h'|⟨x,h',a,b,c⟩
  ·rw[show(atR r k).imgs=[] from h'];rfl
  ·rw[show(atR r k).imgs=[x] from h',dL,c];rfl
 have e:rCheck (atR r k)=(eu (atR r k),0):=by unfold rCheck;rw[hb1,hl,C8 (show ¬(atR r k).kind<1 from by show ¬r.kind<1;omega),C8 (show ¬13<(atR r k).kind from by show ¬13<r.kind;omega),C8 (show ¬(atR r k).lsn<1 from by show ¬(k:Int)<1;omega)];unfold gS;rw[hi,C9 rfl,C8 oM];rfl
 refine⟨by rw[e],?_⟩;unfold jG;rw[e,C9 rfl,E3];simp only[D9,aI];omega
theorem LO.append{l:Lg}{c:Nat}{rs:Int}(h:LO l c rs){r:Rc}(hr:RO r)(hc:c<=50000)(h0:0<=rs)(hs:rs<=50000):∃l',l.append r=(l',(l.tail:Int),0)/\LO l' (c+1008) rs/\l.tail<l'.tail/\l'.last=l.last:=by
 have ht:=h.tail;have hl:=h.last;obtain⟨h1,h2⟩:=hr.check ht.1 oM;have hb:=h.base;have h3:0<(jG (atR r l.tail)).1.length:=by unfold jG;rw[h1,C9 rfl,E3];simp only[D9,aI];omega
 refine⟨{ l with kept:=l.kept++(jG (atR r l.tail)).1,recs:=bJ l.recs (l.tail:Int) (atR r l.tail) },?_,⟨h.frm,h.n,h.base,h.start,?_,h.res,hl.1,?_⟩,?_,rfl⟩
 ·have:=h.room;unfold Lg.append;rw[h1,C9 rfl,E3,C8 oM];rfl
 ·show(l.kept++_).length<=_;rw[D9];have:=h.kept;omega
 ·show l.last<=l.base+(l.kept++_).length;rw[D9];unfold Lg.tail at hl;omega
 ·show l.base+l.kept.length<l.base+(l.kept++_).length;rw[D9];omega
structure DO (d : Dk) : Prop where
 len : d.cur.length = 3322
 on : d.gone = false
 ar : d.armed = 0
theorem Jg{d:Dk}(h:DO d){a:Int}(h0:0<=a)(h1:a<3322){s:Bs}(hs:s.length=64):∃d',d.write a s=(d',0)/\DO d':=by
 have hd:d.cur=d.cur.take a.toNat++([d.cur.getD a.toNat []]++d.cur.drop (a.toNat+1)):=by have hl:=h.len;have ha:a.toNat<d.cur.length:=oM;rw[H4,E0 ha];simp
 have hc:DC d (d.cur.take a.toNat++([d.cur.getD a.toNat []]++d.cur.drop (a.toNat+1))):=⟨hd,h.on,h.ar⟩;have hl:=h.len;obtain⟨d',e,h'⟩:=jt hc (a:=a) (by rw[hs];rfl) (by rw[E8];omega);refine⟨d',e,?_,h'.on,h'.ar⟩;rw[h'.cur];simp only[D9,E8,H0,cN,G7,J6];omega
theorem Dq{d:Dk}(h:DO d):∃d',d.sync=(d',0)/\DO d':=by obtain⟨z,e⟩:=pE ⟨rfl,h.on,h.ar⟩;exact⟨_,e,h.len,rfl,rfl⟩
theorem mZ{l:Lg}(h1:l.frm=2)(h2:l.n=3000):∀(f k:Nat) {d:Dk},DO d->∃d',l.flushGo f k d=(d',0)/\DO d'
 | 0,k,d,h=>⟨d,rfl,h⟩
 | f+1,k,d,h=>by
  rw[Lg.flushGo];by_cases hk:k*54+1<l.tail
  ·rw[C9 hk,E3];have hm:=NX k (dC:0<3000);obtain⟨d',e,h'⟩:=Jg h (a:=((l.frm+k % l.n:Nat):Int)) oM (by rw[h1,h2];omega) (Lg.seal_len (Lg.bytes_len l k) k);unfold Lg.put;rw[e,C9 rfl,E3];exact mZ h1 h2 f (k+1) h'
  ·rw[C8 hk,E1];exact⟨d,rfl,h⟩
theorem LO.flush{l:Lg}{c:Nat}{r:Int}(h:LO l c r){d:Dk}(hd:DO d)(to_:Int):∃l' d',l.flush to_ d=(l',d',0)/\LO l' c r/\DO d'/\l'.tail=l.tail:=by
 have hl:=h.last;unfold Lg.flush;by_cases h1:(decide (to_<(l.last:Int))||decide (l.last=l.tail))=true
 ·rw[h1];exact⟨l,d,rfl,h,hd,rfl⟩
 ·rw[Bool.not_eq_true] at h1;rw[h1,E1];obtain⟨d1,e1,h1⟩:=mZ h.frm h.n (l.kept.length+1) ((l.last - 1) / 54) hd;obtain⟨d2,e2,h2⟩:=Dq h1;unfold Lg.flushE;rw[e1,C9 rfl,E3];simp only;rw[e2,C9 rfl,E3];exact⟨_,_,rfl,⟨h.frm,h.n,h.base,h.start,h.kept,h.res,by show 1<=l.tail;omega,E4 _⟩,h2,rfl⟩
theorem kX:∀k:Bs,cmpB k k=0
 | []=>rfl
 | x::k=>by rw[cmpB,C8 oM,E1,E1];exact kX k
theorem qj:∀(k:Bs) (x:UInt8),cmpB k (k++[x]) = -1
 | [],x=>rfl
 | y::k,x=>by rw[K5,cmpB,C8 oM,E1,E1];exact qj k x
theorem Co{k:Bs}(h:k≠[]):cmpB k []=1:=by
 cases k with
 | nil=>exact absurd rfl h
 | cons x k=>rfl
theorem pM{s:Bs}(h:s.length<=512):(du s).length<=9+s.length:=by unfold du;rw[D9];have:(bo (s.length:Int)).length<=9:=iR oM;omega
theorem IH{n most:Int}(h0:0<=n)(h1:n<=most)(hm:most<=4611686018427387904):rn most (bo n,0)=(n,([],0)):=by
 have:=eN h0 h1 hm []
 rwa [G9] at this
theorem IK{s:Bs}{most:Int}(h1:(s.length:Int)<=most)(hm:most<=4611686018427387904):rt most (du s,0)=(s,([],0)):=by
 have:=rF h1 hm []
 rwa [G9] at this
theorem kq{e:Ent}(h:entOk e=true):de (entB e)=some e:=by
 have h':=F9 h;unfold de entB;rw[rF oM oM];dsimp only;rw[eN oM oM oM];dsimp only;rw[IH oM oM oM];dsimp only;rw[show(⟨e.key,e.page,e.slot⟩:Ent)=e from rfl,h]
 rfl
theorem oH{e:Ent}(h:entOk e=true):(entB e).length<=60/\entB e≠[]:=by
 have h':=F9 h;have h1:=pM (s:=e.key) oM;have h2:(bo e.page).length<=9:=iR oM;have h3:(bo e.slot).length<=9:=iR oM;refine⟨by unfold entB;simp only[D9];omega,λe0=>?_⟩;have:(entB e).length=0:=by rw[e0];rfl
 unfold entB du at this;simp only[D9] at this;omega
theorem yk{n:Int}{k:Nat}(h0:0<=n)(h1:1<=k)(h8:k<=8):eF n k=beN k n.toNat:=by unfold eF;rw[C8 oM,C8 oM,C8 oM,H7];rfl
theorem Aa{n:Nat}(h:n<65536):ofN (beN 2 n)=n:=by unfold ofN;rw[iy];omega
theorem Bq{t:Tu}(h:tuOk t=true):tuEnc t=1::(beN 2 t.xmin.toNat++(beN 2 t.xmax.toNat++(du t.key++du t.val))):=by have h':=F9 (E5 _ _▸h).1;unfold tuEnc;rw[show eF 1 1=[1] from rfl,show eF t.xmin 2=beN 2 t.xmin.toNat from yk (k:=2) oM oM oM,show eF t.xmax 2=beN 2 t.xmax.toNat from yk (k:=2) oM oM oM];simp only[H1,K5,I0]
theorem jY{t:Tu}(h:tuOk t=true):5<=(tuEnc t).length/\(tuEnc t).length<=120:=by have h':=F9 (E5 _ _▸h).1;have hk:=F9 (E5 _ _▸h).2;have h1:=pM (s:=t.key) oM;have h2:=pM (s:=t.val) oM;rw[Bq h];simp only[G7,D9,aI];omega
theorem pL{t:Tu}(h:tuOk t=true):dS (tuEnc t)=some t:=by
 have hl:=(jY h).1;have h':=F9 (E5 _ _▸h).1;have hk:=F9 (E5 _ _▸h).2;rw[Bq h] at hl ⊢;have e1:((1::(beN 2 t.xmin.toNat++(beN 2 t.xmax.toNat++(du t.key++du t.val))):Bs).drop 1).take 2=beN 2 t.xmin.toNat:=pG _ _ _;have e3:((1::(beN 2 t.xmin.toNat++(beN 2 t.xmax.toNat++(du t.key++du t.val))):Bs).drop 3).take 2=beN 2 t.xmax.toNat:=by show((beN 2 t.xmin.toNat++(beN 2 t.xmax.toNat++(du t.key++du t.val))).drop 2).take 2=_;rw[iM,pG]
 have e5:(1::(beN 2 t.xmin.toNat++(beN 2 t.xmax.toNat++(du t.key++du t.val))):Bs).drop 5=du t.key++du t.val:=by show((beN 2 t.xmin.toNat++(beN 2 t.xmax.toNat++(du t.key++du t.val))).drop 4)=_;rw[show 4=2+2 from rfl,<- List.drop_drop,iM,iM]
 have er:tuRd (1::(beN 2 t.xmin.toNat++(beN 2 t.xmax.toNat++(du t.key++du t.val))))=(t.key,t.val,([],0)):=by unfold tuRd;rw[e5,rF oM oM];dsimp only;rw[IK oM oM]
 unfold dS;rw[er,e1,e3,Aa oM,Aa oM,C9 hl];have e6:((t.xmin.toNat:Nat):Int)=t.xmin:=oM;have e7:((t.xmax.toNat:Nat):Int)=t.xmax:=oM;have hne:t.key≠[]:=λe=>by rw[e] at hk;simp at hk
 rw[C9 (show t.xmin.toNat≠0/\t.xmin.toNat<=1024/\t.xmax.toNat<=1024/\(t.key,t.val,(([],0):St2)).1≠[] from⟨oM,oM,oM,hne⟩),e6,e7]
 rfl
def winE(key v0 v1 v2:Bs)(z:Int):O E:=do
 let e <- readyGo 60 0 (FK (dkZ plainL z));let e <- (alone e 0 (aw 1)).bind okR;let e <- (alone e 0 (putA key v0)).bind okR;let e <- (alone e 0 (aw 6)).bind okR;let e <- (alone e 1 (aw 1)).bind okR;let e <- (alone e 2 (aw 1)).bind okR;let e <- ask e 1 (putA key v1)
 ask e 2 (putA key v2)
structure Wg where
 e : E
 won : Int
 over : Int
def repW(s:Nat)(g:Wg):O Wg:=match replyM g.e s with
 | none=>some g
 | some (e,r)=>bif decide (r.err=180) then some ⟨e,g.won,g.over+1⟩ else bif !(decide (r.err=0)) then none else
  bif decide (g.won=(s:Int)) then some ⟨e,g.won,g.over+1⟩ else bif !(decide (g.won=0)) then none else(do
   let e <- ask e s (aw 6)
   some ⟨e,(s:Int),g.over⟩)
def roundW(g:Wg)(p k:Int):O Wg:=do
 let e <- runN g.e p k;let g <- repW 1 { g with e:=e }
 repW 2 g
def GE(F:List Pf)(ow:List (Int×Int))(l:Lg)(d:Dk)(st:Pg)(H:List (Bs×Int))(W:List (Int×Bs))(T:List (Int×Tx))(nx:Int)(rm:O Int)(fr:Int)(se:List Seat)(pk:Int):E:=⟨⟨⟨3002,40,F,ow⟩,l,d⟩,32,40,st,H,W,T,nx,rm,fr,true,se,pk,5,[],[],[],2⟩
section
variable{F:List Pf}{ow:List (Int×Int)}{l:Lg}{d:Dk}{st:Pg}{H:List (Bs×Int)}{W:List (Int×Bs)}{T:List (Int×Tx)}{nx:Int}{rm:O Int}{fr:Int}{se:List Seat}{pk:Int}{c:Nat}{rs:Int}
theorem zI{n:Int}(hn:0<=n/\n<40):(⟨3002,40,F,ow⟩:Pl).known n=0:=by unfold Pl.known;rw[C8 (oM:¬n<0),C8 (oM:¬((40:Nat):Int)<=n)];rfl
theorem sP{n:Int}{i:Nat}(hn:0<=n/\n<40)(hh:F.findIdx? (λf=>decide (f.num=n))=some i)(hs:smP (F.getD i pf0).pg=true):
  fetch (GE F ow l d st H W T nx rm fr se pk) n=some (GE F ow l d st H W T nx rm fr se pk,(F.getD i pf0).pg):=by
 have e:(GE F ow l d st H W T nx rm fr se pk).s.fetch n pk=(⟨⟨3002,40,F,ow⟩,l,d⟩,(F.getD i pf0).pg,0):=by
  have hk:(⟨⟨3002,40,F,ow⟩,l,d⟩:PS).p.known n=0:=zI hn;unfold PS.fetch Pl.hold;show(bif decide ((⟨⟨3002,40,F,ow⟩,l,d⟩:PS).p.known n=0) then(match F.findIdx? (λf=>decide (f.num=n)) with
   | some i=>_
   | none=>_) else _)=_
  rw[hk,hh]
  rfl
 unfold fetch;show(gd (decide (((GE F ow l d st H W T nx rm fr se pk).s.fetch n pk).2.2=0)&&smP ((GE F ow l d st H W T nx rm fr se pk).s.fetch n pk).2.1) >>= λ_=>some ({ GE F ow l d st H W T nx rm fr se pk with s:=((GE F ow l d st H W T nx rm fr se pk).s.fetch n pk).1 },((GE F ow l d st H W T nx rm fr se pk).s.fetch n pk).2.1))=_;rw[e];show(gd (true&&smP _) >>= _)=_;rw[hs]
 rfl
theorem KY{n:Int}{i:Nat}(hn:0<=n/\n<40)(hh:F.findIdx? (λf=>decide (f.num=n))=some i){p:Pg}(hp:pErr p=0)(h1:1<=p.lsn):
  (GE F ow l d st H W T nx rm fr se pk).s.set n p pk=(⟨⟨3002,40,F.set i ⟨p,n,true⟩,bif (getD ow n).isNone then bJ ow n p.lsn else ow⟩,l,d⟩,0):=by
 have hk:(⟨⟨3002,40,F,ow⟩,l,d⟩:PS).p.known n=0:=zI hn;unfold PS.set Pl.hold;show(bif decide ((⟨⟨3002,40,F,ow⟩,l,d⟩:PS).p.known n=0) then(bif decide ((pEnc p).2=0) then(bif decide (p.lsn<1) then _ else(match F.findIdx? (λf=>decide (f.num=n)) with
   | some i=>_
   | none=>_)) else _) else _)=_
 rw[hk,ky,hp,C8 (oM:¬p.lsn<1),hh]
 rfl
theorem KB{n:Int}{i:Nat}(hn:0<=n/\n<40)(hh:F.findIdx? (λf=>decide (f.num=n))=some i){p:Pg}(hp:pErr p=0)(h1:1<=p.lsn){rm':O Int}(hr:(bif decide (p.kind=2) then(gd (decide (n=2)) >>= λ_=>(roomOf p).map some) else some rm:O (O Int))=some rm'):
  lay (GE F ow l d st H W T nx rm fr se pk) n p=some (GE (F.set i ⟨p,n,true⟩) (bif (getD ow n).isNone then bJ ow n p.lsn else ow) l d (bif decide (n=0) then p else st) H W T nx rm' fr se pk):=by
 unfold lay;show(gd (decide (((GE F ow l d st H W T nx rm fr se pk).s.set n p pk).2=0)) >>= λ_=>(bif decide (p.kind=2) then(gd (decide (n=2)) >>= λ_=>(roomOf p).map some) else some rm:O (O Int)) >>= λrm2=>some { GE F ow l d st H W T nx rm fr se pk with s:=((GE F ow l d st H W T nx rm fr se pk).s.set n p pk).1,st:=bif decide (n=0) then p else st,room:=rm2 })=_;rw[hr,KY hn hh hp h1]
 rfl
theorem LD{r r2:Rc}{who free n:Int}{t:Tx}{q:Pg}(hL:LO l c rs)(ht:getD T who=some t)(hx:0<r.xid)(hx':t.xid=r.xid)(hu:0<=t.undoes/\t.undoes<1000)(hla:t.last<l.tail)
  (hn:touch { r with prev:=t.last,lsn:=(l.tail:Int) }=some n) (hb:behind (GE F ow l d st H W T nx rm fr se pk) { r with prev:=t.last,lsn:=(l.tail:Int) } n=some (GE F ow l d st H W T nx rm fr se pk,r2,q))
  (h1:r2.lsn=(l.tail:Int)) (h2:rcB r2=true) (hro:RO r2) {u:Int} (hk:u=bif undoes r2 then 700 else 0) (hc:c<=50000) (hrs:0<=rs/\rs<=40000) (hf:0<=free/\free<=rs+u):
  ∃l',LO l' (c+1008) (rs+u - free)/\l.tail<l'.tail/\l'.last=l.last /\ wr (GE F ow l d st H W T nx rm fr se pk) who r free=lay (GE F ow l' d st H W (bJ T who { t with last:=(l.tail:Int),first:=bif decide (t.first=0) then(l.tail:Int) else t.first,undoes:=bif undoes r2 then t.undoes+1 else t.undoes }) nx rm fr se pk) n q:=by
 have hu7:0<=u/\u<=700:=by rw[hk];cases undoes r2<;>decide
 obtain⟨l1,e1,h1L,t1,a1,_⟩:∃l',(bif undoes r2 then reserve (GE F ow l d st H W T nx rm fr se pk) 700 else some (GE F ow l d st H W T nx rm fr se pk))=some (GE F ow l' d st H W T nx rm fr se pk)/\LO l' c (rs+u)/\l'.tail=l.tail/\l'.last=l.last/\l'.recs=l.recs:=by
  cases hun:undoes r2 with
  | true=>rw[hun,E3] at hk;obtain⟨l1,e,h,x⟩:=hL.reserve (k:=700) oM oM;refine⟨l1,?_,hk▸h,x⟩;rw[E3];unfold reserve;show(gd (decide ((l.reserve 700).2=0)) >>= λ_=>some (lg (GE F ow l d st H W T nx rm fr se pk) (l.reserve 700).1))=_;rw[e];rfl
  | false=>rw[hun,E1] at hk;exact⟨l,rfl,by rw[hk,Int.add_zero];exact hL,rfl,rfl,rfl⟩
 obtain⟨l2,e2,h2L,t2,a2,_⟩:=h1L.release hf.1 hf.2;obtain⟨l3,e3,h3L,t3,a3⟩:=h2L.append hro oM oM oM;refine⟨l3,h3L,oM,by rw[a3,a2,a1],?_⟩;have hop:(decide (0<r.xid)&&decide (t.xid=r.xid))=true:=by rw[C9 hx,C9 hx'];rfl
 unfold wr;show(getD T who >>= _)=_;rw[ht];show(touch { r with prev:=bif (decide (0<r.xid)&&decide (t.xid=r.xid)) then t.last else r.prev,lsn:=(l.tail:Int) } >>= _)=_;rw[hop,E3,hn];show(behind (GE F ow l d st H W T nx rm fr se pk) { r with prev:=t.last,lsn:=(l.tail:Int) } n >>= _)=_;rw[hb];show(gd (decide ((l.tail:Int)=r2.lsn)&&rcB r2) >>= λ_=>(bif undoes r2 then reserve (GE F ow l d st H W T nx rm fr se pk) 700 else some (GE F ow l d st H W T nx rm fr se pk)) >>= _)=_;rw[h1,h2,C9 rfl,e1];show(release (GE F ow l1 d st H W T nx rm fr se pk) free >>= _)=_;have e4:release (GE F ow l1 d st H W T nx rm fr se pk) free=some (GE F ow l2 d st H W T nx rm fr se pk):=by unfold release;show(gd (decide ((l1.release free).2=0)) >>= λ_=>some (lg (GE F ow l1 d st H W T nx rm fr se pk) (l1.release free).1))=_;rw[e2];rfl
 rw[e4];show(gd (decide ((l2.append r2).2.2=0)) >>= λ_=>(logged T who (l2.append r2).2.1 (undoes r2)) >>= λtx=>lay { lg (GE F ow l2 d st H W T nx rm fr se pk) (l2.append r2).1 with txns:=tx } n q)=_;rw[e3];show(logged T who (l2.tail:Int) (undoes r2) >>= λtx=>lay (GE F ow l3 d st H W tx nx rm fr se pk) n q)=_;have e5:logged T who (l2.tail:Int) (undoes r2)=some (bJ T who { t with last:=(l.tail:Int),first:=bif decide (t.first=0) then(l.tail:Int) else t.first,undoes:=bif undoes r2 then t.undoes+1 else t.undoes }):=by
  unfold logged;rw[ht,t2,t1];show(gd (!(decide (t.xid=0))&&decide (t.last<(l.tail:Int))&&decide (0<=t.undoes/\t.undoes<1000000)) >>= _)=_;rw[C8 oM,C9 hla,C9 oM]
  rfl
 rw[e5]
 rfl
end
def rk(k x n s o w:Int)(dt:Bs):Rc:={ rec0 with kind:=k,xid:=x,page:=n,slot:=s,old:=o,new:=w,data:=dt }
def at_l(p:Pg)(k:Nat):Pg:={ p with lsn:=(k:Int) }
section
variable{F:List Pf}{ow:List (Int×Int)}{l:Lg}{d:Dk}{st:Pg}{H:List (Bs×Int)}{W:List (Int×Bs)}{T:List (Int×Tx)}{nx:Int}{rm rm':O Int}{fr:Int}{se:List Seat}{pk:Int}{c i:Nat}{rs who free n k x s o w:Int}{dt:Bs}{t:Tx}{q0 p:Pg}
structure Few (k x n s o w : Int) (dt : Bs) : Prop where
 hk : dkB k = true
 hk' : 1 ≤ k ∧ k ≤ 8
 hx : 1 ≤ x ∧ x ≤ 100
 hn : 0 ≤ n ∧ n < 40
 hs : 0 ≤ s ∧ s ≤ 100
 ho : 0 ≤ o ∧ o ≤ 100
 hw : 0 ≤ w ∧ w ≤ 100
 hd : dt.length ≤ 200
theorem EW(p:Pg)(a b:Int):deed 32 p { rk k x n s o w dt with prev:=a,lsn:=b }=deed 32 p (rk k x n s o w dt):=rfl
def txU(t:Tx)(a:Nat)(u:Bool):Tx:={ t with last:=(a:Int),first:=bif decide (t.first=0) then(a:Int) else t.first,undoes:=bif u then t.undoes+1 else t.undoes }
def undK(k:Int):Bool:=decide (k=1)||decide (k=2)
theorem Lc(hL:LO l c rs)(hc:c<=50000)(hrs:0<=rs/\rs<=40000)(ht:getD T who=some t)(hx:t.xid=x)(hu:0<=t.undoes/\t.undoes<1000)(hla:0<=t.last/\t.last<l.tail)(hw:Few k x n s o w dt)
  (hh:F.findIdx? (λf=>decide (f.num=n))=some i) (hp:(F.getD i pf0).pg=p) (hs:smP p=true) (hl:p.lsn<l.tail)
  (hd:deed 32 p (rk k x n s o w dt)=some q0) (hq:pErr (at_l q0 l.tail)=0) {u:Int} (hk:u=bif undK k then 700 else 0) (hf:0<=free/\free<=rs+u)
  (hr:(bif decide ((at_l q0 l.tail).kind=2) then(gd (decide (n=2)) >>= λ_=>(roomOf (at_l q0 l.tail)).map some) else some rm:O (O Int))=some rm'):
  ∃l',LO l' (c+1008) (rs+u - free)/\l.tail<l'.tail/\l'.last=l.last /\ wr (GE F ow l d st H W T nx rm fr se pk) who (rk k x n s o w dt) free=some (GE (F.set i ⟨at_l q0 l.tail,n,true⟩) (bif (getD ow n).isNone then bJ ow n (l.tail:Int) else ow) l' d (bif decide (n=0) then at_l q0 l.tail else st) H W (bJ T who (txU t l.tail (undK k))) nx rm' fr se pk):=by
 have htl:=hL.tail;have hdo:doRec 32 p n { rk k x n s o w dt with prev:=t.last,lsn:=(l.tail:Int) }=some (at_l q0 l.tail):=by
  show(gd (decide (p.lsn<(l.tail:Int))&&decide (n=n)&&decide (dt.length<=1000)&&inL (l.tail:Int)) >>= λ_=>deed 32 p { rk k x n s o w dt with prev:=t.last,lsn:=(l.tail:Int) } >>= λq=>some { q with lsn:=(l.tail:Int) })=_;have:=hw.hd;rw[EW,hd,C9 hl,C9 rfl,C9 (oM:dt.length<=1000),show inL (l.tail:Int)=true from C9 oM]
  rfl
 have hfe:=sP (ow:=ow) (l:=l) (d:=d) (st:=st) (H:=H) (W:=W) (T:=T) (nx:=nx) (rm:=rm) (fr:=fr) (se:=se) (pk:=pk) hw.hn hh (by rw[hp];exact hs);have hbe:behind (GE F ow l d st H W T nx rm fr se pk) { rk k x n s o w dt with prev:=t.last,lsn:=(l.tail:Int) } n=some (GE F ow l d st H W T nx rm fr se pk,bif !(getD ow n).isNone then { rk k x n s o w dt with prev:=t.last,lsn:=(l.tail:Int) } else { rk k x n s o w dt with prev:=t.last,lsn:=(l.tail:Int),imgs:=[(n,at_l q0 l.tail)] },at_l q0 l.tail):=by
  show(fetch (GE F ow l d st H W T nx rm fr se pk) n >>= λy=>doRec y.1.m y.2 n { rk k x n s o w dt with prev:=t.last,lsn:=(l.tail:Int) } >>= λq=>some (y.1,bif !(getD y.1.s.p.owed n).isNone then { rk k x n s o w dt with prev:=t.last,lsn:=(l.tail:Int) } else { { rk k x n s o w dt with prev:=t.last,lsn:=(l.tail:Int) } with imgs:=[(n,q)] },q))=_;rw[hfe,hp];show(doRec 32 p n { rk k x n s o w dt with prev:=t.last,lsn:=(l.tail:Int) } >>= _)=_;rw[hdo]
  rfl
 have hk':=hw.hk';have hxx:=hw.hx;have hnn:=hw.hn;have hss:=hw.hs;have hoo:=hw.ho;have hww:=hw.hw;have hdd:=hw.hd;have hto:touch { rk k x n s o w dt with prev:=t.last,lsn:=(l.tail:Int) }=some n:=by show(gd (dkB k) >>= λ_=>some n)=_;rw[hw.hk];rfl
 have hst:∀im:List (Int×Pg),(im=[]\/im=[(n,at_l q0 l.tail)])->RO { rk k x n s o w dt with prev:=t.last,lsn:=(l.tail:Int),imgs:=im }/\rcB { rk k x n s o w dt with prev:=t.last,lsn:=(l.tail:Int),imgs:=im }=true:=by
  intro im him;refine⟨⟨show 1<=k/\k<=13 by omega,?_,hdd,rfl,rfl,rfl,rfl,?_⟩,?_⟩
  ·show ∀m∈[t.last,0,0,x,n,s,o,w],_;simp only[H2,Nu,NL,forall_eq_or_imp,forall_eq];omega
  ·rcases him with rfl|rfl
   ·exact .inl rfl
   ·exact .inr ⟨_,rfl,hnn.1,by show n<=100000;omega,hq⟩
  ·have ha:((rNums { rk k x n s o w dt with prev:=t.last,lsn:=(l.tail:Int),imgs:=im }).all inZ)=true:=by
    rw[G8];intro m hm;have:m∈[(l.tail:Int),t.last,0,0,x,n,s,o,w]\/m=n:=by
     rcases him with rfl|rfl
     ·exact .inl (by simpa[rNums,prs,rk,rec0] using hm)
     ·have:=(show m∈[(l.tail:Int),t.last,0,0,x,n,s,o,w]++[n] by simpa[rNums,prs,rk,rec0] using hm);rw[H9,MM] at this;exact this
    simp only[H2,Nu,NL] at this;exact C9 oM
   unfold rcB;rw[ha];show(true&&decide (0<=k/\k<=255/\dt.length<=1000/\im.length<=1)&&decide (([]:List Int)=[]/\([]:List Int)=[]/\([]:List (Int×Int))=[]/\([]:List (Int×Int))=[])&&im.all λx=>decide (x.2.lsn<=1000000000000))=true;have h1:im.length<=1:=by rcases him with rfl|rfl<;>simp
   rw[C9 (oM:0<=k/\k<=255/\dt.length<=1000/\im.length<=1)];rcases him with rfl|rfl
   ·rfl
   ·show(true&&true&&true&&(decide ((l.tail:Int)<=1000000000000)&&true))=true;rw[C9 oM];rfl
 obtain⟨r2,hr2,im,him⟩:∃r2,(bif !(getD ow n).isNone then { rk k x n s o w dt with prev:=t.last,lsn:=(l.tail:Int) } else { rk k x n s o w dt with prev:=t.last,lsn:=(l.tail:Int),imgs:=[(n,at_l q0 l.tail)] })=r2/\∃im,(im=[]\/im=[(n,at_l q0 l.tail)])/\r2={ rk k x n s o w dt with prev:=t.last,lsn:=(l.tail:Int),imgs:=im }:=by
  cases(getD ow n).isNone with
  | true=>exact⟨_,rfl,_,.inr rfl,rfl⟩
  | false=>exact⟨_,rfl,[],.inl rfl,rfl⟩
 obtain⟨him,rfl⟩:=him;rw[hr2] at hbe;obtain⟨hro,hrb⟩:=hst im him;obtain⟨l',a1,a2,a3,a4⟩:=LD hL ht (oM:0<x) hx hu hla.2 hto hbe rfl hrb hro hk hc hrs hf;refine⟨l',a1,a2,a3,a4.trans ?_⟩;exact KB hnn hh hq (oM:1<=(l.tail:Int)) hr
end
def bt(ak:Ak)(p:Pn):Seat:={ seat0 with ask:=ak,wk:=.follow,plan:=some p }
def fZ(r:Rp):Seat:={ seat0 with told:=true,rep:=r }
def sAsk(ak:Ak):Seat:={ seat0 with ask:=ak,wk:=.begin }
section
variable{F:List Pf}{ow:List (Int×Int)}{l:Lg}{d:Dk}{st:Pg}{H:List (Bs×Int)}{W:List (Int×Bs)}{T:List (Int×Tx)}{nx:Int}{rm rm':O Int}{fr:Int}{se:List Seat}{pk:Int}{c i j:Nat}{rs who free n:Int}{t:Tx}{b:Pg}{ak:Ak}{p p':Pn}{v:Vw}{s:Seat}
theorem seat_i:seatAt (GE F ow l d st H W T nx rm fr se pk) i=se.getD i seat0:=rfl
theorem aP:setSeat (GE F ow l d st H W T nx rm fr se pk) i s=GE F ow l d st H W T nx rm fr (se.set i s) pk:=rfl
theorem cA{se:List Seat}(hi:i<se.length)(s:Seat):(se.set i s).getD i seat0=s:=by rw[H4,MN hi];rfl
theorem set_set{se:List Seat}(s s':Seat):(se.set i s).set i s'=se.set i s':=by rw[Nc]
theorem Bw(h1:fewT T=true)(h2:smP st=true)(h3:getD T (i:Int)=some t):view (GE F ow l d st H W T nx rm fr se pk) i=some ⟨32,t.next,t.act,t.xid,running T,st⟩:=by unfold view;show(gd (fewT T&&smP st) >>= λ_=>getD T (i:Int) >>= λt=>some (⟨32,t.next,t.act,t.xid,running T,st⟩:Vw))=_;rw[h1,h2,h3];rfl
theorem fe{e:E}(hp:(seatAt e i).plan=some p)(h:p.wk≠4):ended e i=some e:=by unfold ended;rw[hp];show(bif decide (p.wk=4) then _ else some e)=_;rw[C8 h];rfl
theorem qx{e:E}(hp:(seatAt e i).plan=some p)(h:p.wk=4)(h0:p.rep.err=0)(hr:p.rep.rows.length<=1000):ended e i=some (say e i p.rep):=by unfold ended;rw[hp];show(bif decide (p.wk=4) then(bif decide (p.rep.err=0) then(gd (decide (p.rep.rows.length<=1000)) >>= λ_=>some (say e i p.rep)) else _) else some e)=_;rw[C9 h,C9 h0,C9 hr];rfl
theorem cZ{e:E}(hs:seatAt e i=bt ak p):stepM e i=((match p.wk with
  | 1=>do
   let (e,r) <- tryK e i p.wkey
   some (modPlan e i (match r with
    | 0=>look p
    | 1=>p
    | _=>fin p { rp0 with err:=181 }))
  | 2=>do
   let (e,n) <- roomFor e i p.wsz
   show_ (modPlan e i (see p n 302)) i (see p n 302)
  | 3=>show_ e i p
  | _=>none:O E) >>= λe=>ended e i):=by
 unfold stepM;rw[hs];show follow e i=_;unfold follow;rw[hs]
 rfl
theorem mg(hse:se.getD i seat0=bt ak p)(hn:0<=p.wpg/\p.wpg<40)(hh:F.findIdx? (λf=>decide (f.num=p.wpg))=some j)(hb:(F.getD j pf0).pg=b)(hs:smP b=true)
  (h1:fewT T=true) (h2:smP st=true) (h3:getD T (i:Int)=some t) (hpp:pageP ⟨32,t.next,t.act,t.xid,running T,st⟩ p b=some (p',none)):
  show_ (GE F ow l d st H W T nx rm fr se pk) i p=some (GE F ow l d st H W T nx rm fr (se.set i (bt ak p')) pk):=by
 unfold show_;rw[sP hn hh (by rw[hb];exact hs),hb];show(view (GE F ow l d st H W T nx rm fr se pk) i >>= _)=_;rw[Bw h1 h2 h3];show(pageP ⟨32,t.next,t.act,t.xid,running T,st⟩ p b >>= _)=_;rw[hpp];show some (modPlan (GE F ow l d st H W T nx rm fr se pk) i p')=_;unfold modPlan;rw[seat_i,hse]
 rfl
theorem xm{r:Rc}{e':E}(hse:se.getD i seat0=bt ak p)(hn:0<=p.wpg/\p.wpg<40)(hh:F.findIdx? (λf=>decide (f.num=p.wpg))=some j)(hb:(F.getD j pf0).pg=b)(hs:smP b=true)
  (h1:fewT T=true) (h2:smP st=true) (h3:getD T (i:Int)=some t) (hpp:pageP ⟨32,t.next,t.act,t.xid,running T,st⟩ p b=some (p',some r))
  (hw:wr (GE F ow l d st H W T nx rm fr (se.set i (bt ak p')) pk) i r 0=some e') (hf:inZ e'.fresh=true):
  show_ (GE F ow l d st H W T nx rm fr se pk) i p=some e':=by
 unfold show_;rw[sP hn hh (by rw[hb];exact hs),hb];show(view (GE F ow l d st H W T nx rm fr se pk) i >>= _)=_;rw[Bw h1 h2 h3];show(pageP ⟨32,t.next,t.act,t.xid,running T,st⟩ p b >>= _)=_;rw[hpp];show(wr (modPlan (GE F ow l d st H W T nx rm fr se pk) i p') i r 0 >>= λe=>gd (inZ e.fresh) >>= λ_=>some e)=_;unfold modPlan;rw[seat_i,hse];show(wr (GE F ow l d st H W T nx rm fr (se.set i (bt ak p')) pk) i r 0 >>= _)=_;rw[hw];show(gd (inZ e'.fresh) >>= λ_=>some e')=_;rw[hf];rfl
theorem mj(hi:i<se.length)(hse:se.getD i seat0=bt ak p)(hwk:p.wk=3)(hn:0<=p.wpg/\p.wpg<40)(hh:F.findIdx? (λf=>decide (f.num=p.wpg))=some j)(hb:(F.getD j pf0).pg=b)(hs:smP b=true)
  (h1:fewT T=true) (h2:smP st=true) (h3:getD T (i:Int)=some t) (hpp:pageP ⟨32,t.next,t.act,t.xid,running T,st⟩ p b=some (p',none)) (h4:p'.wk≠4):
  stepM (GE F ow l d st H W T nx rm fr se pk) i=some (GE F ow l d st H W T nx rm fr (se.set i (bt ak p')) pk):=by
 rw[cZ (seat_i.trans hse),hwk];show(show_ (GE F ow l d st H W T nx rm fr se pk) i p >>= _)=_;rw[mg hse hn hh hb hs h1 h2 h3 hpp];exact fe (by rw[seat_i,cA hi];rfl) h4
theorem Bo{k:Bs}(hk:getD H k=none):tryK (GE F ow l d st H W T nx rm fr se pk) who k=some (GE F ow l d st (bJ H k who) (bQ W who) T nx rm fr se pk,0):=by
 unfold tryK;show(bif decide ((getD H k).getD who=who) then _ else _)=_;rw[hk];show(bif decide (who=who) then _ else _)=_;rw[C9 rfl]
 rfl
theorem tS(hi:i<se.length)(hse:se.getD i seat0=bt ak p)(hwk:p.wk=1)(hk:getD H p.wkey=none):
  stepM (GE F ow l d st H W T nx rm fr se pk) i=some (GE F ow l d st (bJ H p.wkey (i:Int)) (bQ W (i:Int)) T nx rm fr (se.set i (bt ak (look p))) pk):=by
 rw[cZ (seat_i.trans hse),hwk];show((tryK (GE F ow l d st H W T nx rm fr se pk) i p.wkey >>= _) >>= _)=_;rw[Bo hk];show ended (modPlan (GE F ow l d st (bJ H p.wkey (i:Int)) (bQ W (i:Int)) T nx rm fr se pk) i (look p)) i=_;have e:modPlan (GE F ow l d st (bJ H p.wkey (i:Int)) (bQ W (i:Int)) T nx rm fr se pk) i (look p)=GE F ow l d st (bJ H p.wkey (i:Int)) (bQ W (i:Int)) T nx rm fr (se.set i (bt ak (look p))) pk:=by unfold modPlan;rw[seat_i,hse];rfl
 rw[e];exact fe (by rw[seat_i,cA hi];rfl) (by show(3:Int)≠4;decide)
def jD(ak:Ak)(x:Int):Pn:={ pn0 ak x with wk:=1,wkey:=ak.key }
theorem kD{key val:Bs}(hL:LO l c rs)(hc:c<=50000)(hrs:0<=rs/\rs<=40000)(hi:i<se.length)(hse:se.getD i seat0=sAsk (putA key val))(hk:keyOk key=true)(hv:val.length<=64)
  (ht:getD T (i:Int)=some t) (hx:t.xid=0) (hnx:1<=nx/\nx<=10) (hr:nx∉running T) (hfew:fewT T=true):
  ∃l',LO l' c (rs+700)/\l'.tail=l.tail/\l'.last=l.last/\stepM (GE F ow l d st H W T nx rm fr se pk) i=stepM (GE F ow l' d st H W (bJ T (i:Int) { t with xid:=nx }) (nx+1) rm fr (se.set i (bt (putA key val) (jD (putA key val) nx))) pk) i:=by
 obtain⟨l',e1,h1,h2,h3,_⟩:=hL.reserve (k:=700) oM oM;refine⟨l',h1,h2,h3,?_⟩;have hra:∀x:Int,0<x->rightA (putA key val) x=true:=by intro x hx;show(keyOk key&&decide (val.length<=64)&&decide (0<x))=true;rw[hk,C9 hv,C9 hx];rfl
 have hxa:xAdd 32 nx 1=nx+1:=by unfold xAdd idOk;rw[C9 (oM:1<=nx/\nx<=32),E3];omega
 have hxg:xGap 32 1 nx<=9:=by unfold xGap idOk;rw[C9 (oM:1<=nx/\nx<=32)];show(nx - 1) % 32<=9;omega
 have hres:reserve (GE F ow l d st H W T nx rm fr se pk) 700=some (GE F ow l' d st H W T nx rm fr se pk):=by unfold reserve;show(gd (decide ((l.reserve 700).2=0)) >>= λ_=>some (lg (GE F ow l d st H W T nx rm fr se pk) (l.reserve 700).1))=_;rw[e1];rfl
 have hmk:mkP (putA key val) nx=some (jD (putA key val) nx):=by unfold mkP;rw[hra nx oM];rfl
 conv=>lhs;unfold stepM
 rw[seat_i,hse];show begin (GE F ow l d st H W T nx rm fr se pk) i=_;unfold begin;rw[seat_i,hse];show(getD T (i:Int) >>= _)=_;rw[ht];show((bif true&&decide (t.xid=0) then(gd (rightA (putA key val) 1&&decide (0<(32:Int) / 2 - 2 - xGap 32 1 nx)&&!(decide (nx∈running T))&&fewT T) >>= λ_=>reserve (GE F ow l d st H W T nx rm fr se pk) 700 >>= λe=>some ({ e with nxt:=xAdd e.m e.nxt 1,txns:=bJ e.txns (i:Int) { t with xid:=e.nxt } },e.nxt)) else some (GE F ow l d st H W T nx rm fr se pk,t.xid):O (E×Int)) >>= λy=>mkP (putA key val) y.2 >>= λp=>follow (setSeat y.1 i { seatAt y.1 i with plan:=some p,wk:=.follow }) i)=_;rw[C9 hx,hra 1 oM,C9 (oM:0<(32:Int) / 2 - 2 - xGap 32 1 nx),C8 hr,hfew,hres];show(mkP (putA key val) nx >>= λp=>follow (setSeat (GE F ow l' d st H W (bJ T (i:Int) { t with xid:=nx }) (xAdd 32 nx 1) rm fr se pk) i { se.getD i seat0 with plan:=some p,wk:=.follow }) i)=_;rw[hmk,hxa,hse]
 conv=>rhs;unfold stepM
 rw[seat_i,cA hi]
 rfl
end
def pS(k:Int)(b:UInt8):Pg:=⟨k,1,0,0,[],[bo 1,b::az 7]⟩
def pA(k:Int)(l:List Bs):Pg:=⟨k,3,0,0,[],l⟩
def pH(k:Int)(l:List Bs):Pg:=⟨k,2,0,0,[],l⟩
theorem je{k kd:Int}{l:List Bs}(h0:0<=k)(hk:1<=kd/\kd<=3)(hl:l.length<=3)(hs:∀s∈l,s.length<=150):pErr ⟨k,kd,0,0,[],l⟩=0/\cR ⟨k,kd,0,0,[],l⟩=true/\bb ⟨k,kd,0,0,[],l⟩<=490/\smP ⟨k,kd,0,0,[],l⟩=true:=by
 have h:bb ⟨k,kd,0,0,[],l⟩<=490:=by
  unfold bb
  match l,hl,hs with
  | [],_,_=>show 20<=490;omega
  | [x],_,hs=>have:=hs x sI;show 20+(2+x.length)<=490;omega
  | [x,y],_,hs=>have:=hs x sI;have:=hs y sI;show 20+(2+x.length)+(2+y.length)<=490;omega
  | [x,y,z],_,hs=>have:=hs x sI;have:=hs y sI;have:=hs z sI;show 20+(2+x.length)+(2+y.length)+(2+z.length)<=490;omega
  | _::_::_::_::_,hl,_=>simp at hl
 refine⟨Af ⟨⟨h0,by show(0:Int)<=0;omega,by show(0:Int)<=0;omega,hk.1,hk.2,by show(0:Int)<=255;omega,by show(0:Int)<=4294967295;omega⟩,by show 0<=255;omega,by show l.length<=255;omega,oM⟩,?_,h,?_⟩
 ·unfold cR;rw[C9 (show(⟨k,kd,0,0,[],l⟩:Pg).items.length<=255 by show l.length<=255;omega),C9 (oM:bb ⟨k,kd,0,0,[],l⟩<=512)];rfl
 ·unfold smP;rw[C9 (show(⟨k,kd,0,0,[],l⟩:Pg).items.length<=255 by show l.length<=255;omega)];show(l.all λs=>decide (s.length<=1000))=true;rw[G8];intro s hm;have:=hs s hm;exact C9 oM
theorem Er{k:Int}(hk:0<=k)(b:UInt8):Gw 32 (pS k b)=true:=by unfold Gw;rw[show rdNum 32 (it0 (pS k b)) 0=(1,[],0) from by kernel_rfl];rw[E5,E5];exact⟨⟨C9 ⟨rfl,hk,rfl,rfl,rfl,rfl,rfl⟩,rfl⟩,rfl⟩
theorem HK{k:Int}(hk:0<=k)(b:UInt8){x:Int}(hx:1<=x/\x<=10):clogGet 32 (pS k b) x=some (Gv (b::az 7) x):=by unfold clogGet;rw[Er hk,show idOk 32 x=true from C9 oM];rfl
theorem yG{k:Int}(hk:0<=k){x:Int}(hx:1<=x/\x<=10){b b':UInt8}(h:((b::az 7).set (plN x / 4) (pbyte ((b::az 7).getD (plN x / 4) 0) 2 (mB x)))=b'::az 7):clogSet 32 (pS k b) x 2=some (pS k b'):=by unfold clogSet;rw[Er hk,show idOk 32 x=true from C9 oM];show some (⟨k,1,0,0,[],[bo 1,((b::az 7).set (plN x / 4) (pbyte ((b::az 7).getD (plN x / 4) 0) 2 (mB x)))]⟩:Pg)=_;rw[h];rfl
theorem MG:((0::az 7:Bs).set (plN 1 / 4) (pbyte ((0::az 7:Bs).getD (plN 1 / 4) 0) 2 (mB 1)))=2::az 7:=kR
theorem MH:((2::az 7:Bs).set (plN 2 / 4) (pbyte ((2::az 7:Bs).getD (plN 2 / 4) 0) 2 (mB 2)))=10::az 7:=kR
theorem Mf:Gv (2::az 7) 1=2:=kR
theorem Kf:Gv (10::az 7) 1=2:=kR
theorem Kg:Gv (10::az 7) 2=2:=kR
section
variable{nx own x:Int}{R:List Int}{k:Int}{b:UInt8}
theorem vB(hk:0<=k)(hx:1<=x/\x<=10)(hr:x∉R):status ⟨32,nx,[],own,R,pS k b⟩ x=some (Gv (b::az 7) x):=by unfold status;rw[C8 hr,E1];exact HK hk b hx
theorem nS(hk:0<=k)(hx:1<=x/\x<=10)(hr:x∉R)(ho:x≠own)(hb:xBefore 32 x nx=true)(h2:Gv (b::az 7) x=2):sees ⟨32,nx,[],own,R,pS k b⟩ x=some true:=by
 unfold sees;rw[C8 (oM:¬x=0),E1,C8 (show ¬x=own from ho),E1];show(bif decide (x∈([]:List Int))||!(xBefore 32 x nx) then some false else(status ⟨32,nx,[],own,R,pS k b⟩ x).map λs=>decide (s=2))=_;rw[hb,vB hk hx hr,h2]
 rfl
theorem Eo(hx:1<=x/\x<=10)(ho:x≠own)(hb:xBefore 32 x nx=false):sees ⟨32,nx,[],own,R,pS k b⟩ x=some false:=by
 unfold sees;rw[C8 (oM:¬x=0),E1,C8 (show ¬x=own from ho),E1];show(bif decide (x∈([]:List Int))||!(xBefore 32 x nx) then some false else(status ⟨32,nx,[],own,R,pS k b⟩ x).map λs=>decide (s=2))=_;rw[hb]
 rfl
end
section
variable{key v0 va vb val:Bs}{k:Int}{b:UInt8}{R:List Int}{nx own:Int}
structure Rt (key v : Bs) : Prop where
 k : keyOk key = true
 v : v.length ≤ 64
theorem Rt.tu(h:Rt key val){x y:Int}(hx:1<=x/\x<=10)(hy:0<=y/\y<=10):tuOk ⟨x,y,key,val⟩=true:=by unfold tuOk;rw[C9 (show 1<=(⟨x,y,key,val⟩:Tu).xmin/\(⟨x,y,key,val⟩:Tu).xmin<=1024/\0<=(⟨x,y,key,val⟩:Tu).xmax/\(⟨x,y,key,val⟩:Tu).xmax<=1024/\(⟨x,y,key,val⟩:Tu).val.length<=64 from⟨by show 1<=x;omega,by show x<=1024;omega,by show 0<=y;omega,by show y<=1024;omega,h.v⟩)];exact h.k
theorem zH(h:keyOk key=true):0<key.length/\key.length<=24:=F9 h
theorem Ii(h:keyOk key=true):key≠[]:=λe=>by rw[e] at h;cases h
theorem ln(h:keyOk key=true){s:Int}(hs:0<=s/\s<=10):entOk ⟨key,2,s⟩=true:=by have:=zH h;exact C9 ⟨by show 1<=key.length;omega,by show key.length<=24;omega,by show(0:Int)<=2;omega,by show(2:Int)<=65535;omega,by show 0<=s;omega,by show s<=65535;omega⟩
theorem DS{s s':Int}(h:s<s'):dc ⟨key,2,s⟩ ⟨key,2,s'⟩ = -1:=by unfold dc;rw[show cmpB (⟨key,2,s⟩:Ent).key (⟨key,2,s'⟩:Ent).key=0 from kX key];show(uC s s')=_;unfold uC;rw[C9 h];rfl
abbrev EB(key:Bs)(s:Int):Bs:=entB ⟨key,2,s⟩
theorem uH(h:keyOk key=true){s:Int}(hs:0<=s/\s<=10):(EB key s).length<=150:=by have:=(oH (ln h hs)).1;show(entB ⟨key,2,s⟩).length<=150;omega
def leafL(key:Bs)(n:Nat):List Ent:=(List.range n).map λi:Nat=>(⟨key,2,(i:Int)⟩:Ent)
theorem bU(h:keyOk key=true)(hk:0<=k){n:Nat}(hn:n<=2):pErr (pA k ((leafL key n).map entB))=0/\cR (pA k ((leafL key n).map entB))=true/\bb (pA k ((leafL key n).map entB))<=490/\smP (pA k ((leafL key n).map entB))=true:=by refine je hk ⟨oM,oM⟩ (by unfold leafL;simp;omega) λs hs=>?_;unfold leafL at hs;rw[M0,G0] at hs;obtain⟨i,hi,rfl⟩:=hs;have:=List.mem_range.1 hi;exact uH h oM
theorem dM(h:keyOk key=true)(hk:0<=k){n:Nat}(hn:n<=2):M.opened (pA k ((leafL key n).map entB))=some (leafL key n):=by
 have hl:leafOk (pA k ((leafL key n).map entB))=true:=by unfold leafOk;rw[(bU h hk hn).1];rfl
 unfold M.opened;rw[hl];show ents ((leafL key n).map entB)=_;have b0:=kq (ln h (s:=0) oM);have b1:=kq (ln h (s:=1) oM)
 match n,hn with
 | 0,_=>rfl
 | 1,_=>show(de (EB key 0) >>= λe=>entsGo e [] >>= λr=>some (e::r))=_;rw[b0];rfl
 | 2,_=>show(de (EB key 0) >>= λe=>entsGo e [EB key 1] >>= λr=>some (e::r))=_;rw[b0];show((de (EB key 1) >>= λe=>gd (decide (dc ⟨key,2,0⟩ e<0)) >>= λ_=>entsGo e [] >>= λr=>some (e::r)) >>= λr=>some ((⟨key,2,0⟩:Ent)::r))=_;rw[b1];show((gd (decide (dc ⟨key,2,0⟩ ⟨key,2,1⟩<0)) >>= _) >>= _)=_;rw[DS oM];rfl
theorem qJ(h:keyOk key=true)(hk:0<=k){n:Nat}(hn:n<=2){fr to_:Bs}(h1:0<=cmpB key fr)(h2:below to_ key=true):hits (pA k ((leafL key n).map entB)) fr to_=some (leafL key n):=by unfold hits;rw[dM h hk hn];show some ((leafL key n).filter λe=>decide (0<=cmpB e.key fr)&&below to_ e.key)=_;rw[List.filter_eq_self.2];intro e he;unfold leafL at he;rw[G0] at he;obtain⟨i,_,rfl⟩:=he;show(decide (0<=cmpB key fr)&&below to_ key)=true;rw[C9 h1,h2];rfl
end
section
variable{key v0 val:Bs}{k k0:Int}{R:List Int}{nx own x:Int}{v:Vw}{m n:Nat}{L:List Ent}{p:Pn}{b:Pg}
def plL(key val:Bs)(x:Int):Pn:=look (jD (putA key val) x)
def plD(key val:Bs)(x:Int)(L:List Ent):Pn:=see { plL key val x with seen:=1,left:=L } 2 408
def plT(key val:Bs)(x:Int):Pn:=see { plD key val x [] with hit:=true,one:=⟨key,2,0⟩ } 2 409
def plW(p:Pn)(x:Int)(key val:Bs):Pn:={ p with stg:=0,wk:=2,wkey:=[],wsz:=((tuEnc ⟨x,0,key,val⟩).length:Int),wpg:=0 }
def plI(p:Pn)(key:Bs)(m:Nat):Pn:=see { p with ent:=⟨key,2,(m:Int)⟩,item:=EB key m,seen:=0 } 1 362
theorem jB(hs:smP b=true)(hi:p.stg=362\/p.item=[]):pageP v p b=(match p.stg with
  | 216=>(descend p b).map (·,none)
  | 408=>(inspect v p b).map (·,none)
  | 409=>(finish p b).map λx=>(x.1,some x.2)
  | 302=>(layP p b).map λx=>(x.1,some x.2)
  | 362=>(enter p b).map λx=>(x.1,some x.2)
  | _=>none):=by
 unfold pageP;have:(decide (p.stg=362)||p.item.isEmpty)=true:=by
  rcases hi with h|h
  ·rw[h];rfl
  ·rw[h];cases decide (p.stg=362)<;>rfl
 rw[hs,this];rfl
theorem mT(hk:keyOk key=true)(h0:0<=k)(hn:n<=2):pageP v (plL key val x) (pA k ((leafL key n).map entB))=(next { plL key val x with seen:=1,left:=leafL key n }).map (·,none):=by
 have hkl:=zH hk;rw[jB (bU hk h0 hn).2.2.2 (.inr rfl)];show(descend (plL key val x) _).map _=_;have:descend (plL key val x) (pA k ((leafL key n).map entB))=next { plL key val x with seen:=1,left:=leafL key n }:=by
  unfold descend;show(gd (decide (key.length<=24)&&decide ((0:Int)<=0/\(0:Int)<4000)) >>= λ_=>M.opened (pA k ((leafL key n).map entB)) >>= λ_=>hits (pA k ((leafL key n).map entB)) key (key++[0]) >>= λh=>next { plL key val x with seen:=0+1,left:=h })=_;rw[C9 hkl.2,dM hk h0 hn,qJ hk h0 hn (by rw[kX];omega) (by unfold below;rw[qj];exact Bool.or_true _)]
  rfl
 rw[this]
theorem vM{p:Pn}(h:Rt key val)(ha:p.ask=putA key val)(ho:p.own=x)(hx:1<=x/\x<=10):write p=some (plW p x key val):=by
 unfold write;have hv:version p=⟨x,0,key,val⟩:=by unfold version;rw[ha,ho];rfl
 have hc:decide (p.ask.call=4)=false:=by rw[ha];rfl
 rw[hv,hc,h.tu hx oM]
 rfl
theorem Cu(h:Rt key val)(h0:0<=k)(hx:1<=x/\x<=10):pageP v (plL key val x) (pA k [])=some (plW { plL key val x with seen:=1 } x key val,none):=by
 have:=mT (v:=v) (val:=val) (x:=x) h.k h0 (n:=0) oM;refine this.trans ?_;have e:next { plL key val x with seen:=1,left:=leafL key 0 }=some (plW { plL key val x with seen:=1 } x key val):=by exact vM (p:={ plL key val x with seen:=1,left:=[] }) h rfl rfl hx
 rw[e];rfl
theorem uG(h:keyOk key=true)(h0:0<=k)(hn:n+1<=2):pageP v (plL key val x) (pA k ((leafL key (n+1)).map entB))=some (plD key val x (leafL key (n+1)),none):=by
 rw[mT h h0 hn];have:leafL key (n+1)=⟨key,2,0⟩::((List.range n).map λi:Nat=>(⟨key,2,((i+1:Nat):Int)⟩:Ent)):=by
  unfold leafL;rw[List.range_succ_eq_map,K8,M0]
  rfl
 rw[this]
 rfl
theorem Jc{t:Tu}(h:tuOk t=true):tuAt (tuEnc t)=some (some t):=by unfold tuAt;rw[C8 (by have:=(jY h).1;omega),E1,pL h];rfl
theorem bL(h0:0<=k){l:List Bs}(hl:l.length<=2)(hs:∀s∈l,∃t,s=tuEnc t/\tuOk t=true):pErr (pH k l)=0/\cR (pH k l)=true/\bb (pH k l)<=490/\smP (pH k l)=true:=je h0 ⟨oM,oM⟩ oM λs hm=>by obtain⟨t,rfl,h⟩:=hs s hm;have:=(jY h).2;omega
theorem gv(ht:tuOk ⟨m,n,key,v0⟩=true){e:Ent}(he:e.key=key)(h0:0<=e.slot){l:List Bs}(hl:l[e.slot.toNat]?=some (tuEnc ⟨m,n,key,v0⟩))(hsm:smP (pH k l)=true)
  (hst:p.stg=408) (hit:p.item=[]) (hr:p.rows.length<=1000) (hle:p.left=e::L) {vi:Bool} (hv:visible v ⟨m,n,key,v0⟩=some vi):
  pageP v p (pH k l)=(do
   let nw <- bif writes p.ask then newer v ⟨m,n,key,v0⟩ else some false
   bif nw then some (fin { p with left:=L } { rp0 with err:=180 }) else
   bif !vi then next { p with left:=L } else
   bif writes p.ask then next { p with left:=L,hit:=true,one:=e } else
   (do
    gd (decide (p.ask.call=5)&&p.rep.rows.isEmpty)
    let q:={ p with left:=L,rows:=p.rows++[(key,v0)] }
    bif decide ((q.rows.length:Int)=p.ask.n) then some (fin q { rp0 with rows:=q.rows }) else next q)).map (·,none):=by
 rw[jB hsm (.inr hit),hst];show(inspect v p (pH k l)).map _=_;refine I3 (Option.map _) ?_;unfold inspect;rw[hle];show(gd (decide ((2:Int)=2)&&decide (p.rows.length<=1000)) >>= λ_=>itemAt (pH k l) e.slot >>= λs=>tuAt s >>= _)=_;have hi:itemAt (pH k l) e.slot=some (tuEnc ⟨m,n,key,v0⟩):=by unfold itemAt;rw[C9 h0];exact hl
 rw[C9 hr,hi];show(tuAt (tuEnc ⟨m,n,key,v0⟩) >>= _)=_;rw[Jc ht];show(gd (decide (key=e.key)) >>= λ_=>visible v ⟨m,n,key,v0⟩ >>= _)=_;rw[he,C9 rfl,hv]
 rfl
end
end M
end Go.Proofs.YtmdmffeoehfjgaaGreatDoor
