/- Laid for one claim by slim.py out of: parts. -/
import Derived.Test.YtmdmffeoehfjgaaGreatDoorTwsG
set_option maxRecDepth 100000
set_option maxHeartbeats 0
set_option linter.unusedVariables false
set_option linter.unusedSimpArgs false
set_option linter.unusedSectionVars false
open Go.Proofs.Tryz (prog)
namespace Go.Proofs.YtmdmffeoehfjgaaGreatDoor
open Go.Al Go.Proofs
open Go.ChangeMaps (setBlock)
open Go.Proofs.Tryz
open M (Tu keyOk tuOk tuEnc deadB tuRd dS)
open M (Ent entOk entB de cmpB uC dc)
open M (Ent entOk entB de dc)
open M (Tu tuOk tuEnc dS)
open M (idOk xAdd xGap xBefore)
open M (idOk xAdd Gw it0 it1 plN mB)
open M (idOk xAdd it0 it1 Vw Tu)
open M (Tu tuOk tuEnc dS it0)
open M (it0)
open M (Tx)
open M (xGap xAdd idOk)
open Go.RowKit
open M (Tx running)
open M (Pn Ak Rp Ent tuOk tuEnc entOk entB ent0 rp0 Tu)
open M (E Seat Wk Pn Rp Ak Tx)
open M (Ctl jw)
open M (Ctl findX findP lQ zS xBefore xAdd)
open M (Ctl jw E)
open M (E Seat Wk Pn Rp Ak Tx Ctl)
attribute [local irreducible] World.drew undef aE aM bn bS faV ixV ixS ixA aY cF ixG unV cvI cvS slS slV lenV cm cG aV aU aQ aB isB Instr.build Instr.buildSlice Instr.lookup Instr.mapUpdate Instr.range Instr.next Instr.entry Instr.makeMap Instr.makeSlice convert binOp Instr.sliceAt Instr.makeInterface Builtin.append_ Builtin.copy_ Builtin.delete_ Builtin.clear_ Builtin.len_ Builtin.cap_ Value.cells
namespace M
section
variable{key v0 val:Bs}{k k0:Int}{R:List Int}{nx own x:Int}{v:Vw}{m n:Nat}{L:List Ent}{p:Pn}{b:Pg}{t:Tu}
theorem GI(h:Rt key v0)(h0:0<=k):turn (pH k [tuEnc ⟨1,0,key,v0⟩]) 0 0 2=some (pH k [tuEnc ⟨1,2,key,v0⟩]):=by have h1:tuOk ⟨1,0,key,v0⟩=true:=h.tu oM oM;have h2:tuOk ⟨1,2,key,v0⟩=true:=h.tu oM oM;have hf:=(bL h0 (l:=[tuEnc ⟨1,2,key,v0⟩]) sI (λs hs=>⟨_,by simpa using hs,h2⟩)).2.1;unfold turn;show(dS (tuEnc ⟨1,0,key,v0⟩) >>= _)=_;rw[pL h1];show(gd (decide ((0:Int)=0)&&tuOk ⟨1,2,key,v0⟩) >>= λ_=>heapWith (pH k [tuEnc ⟨1,0,key,v0⟩]) 0 (tuEnc ⟨1,2,key,v0⟩))=_;rw[h2];show(gd (cR (pH k [tuEnc ⟨1,2,key,v0⟩])) >>= λ_=>some (pH k [tuEnc ⟨1,2,key,v0⟩]))=_;rw[hf];rfl
theorem zp(h:Rt key v0)(hv:Rt key val)(h0:0<=k):pageP v (plT key val 2) (pH k [tuEnc ⟨1,0,key,v0⟩])=some (plW (plT key val 2) 2 key val,some (rk 2 2 2 0 0 2 [])):=by
 have h1:tuOk ⟨1,0,key,v0⟩=true:=h.tu oM oM;have h2:tuOk ⟨1,2,key,v0⟩=true:=h.tu oM oM;have hf:=(bL h0 (l:=[tuEnc ⟨1,2,key,v0⟩]) sI (λs hs=>⟨_,by simpa using hs,h2⟩)).2.1;have hs:=(bL h0 (l:=[tuEnc ⟨1,0,key,v0⟩]) sI (λs hs=>⟨_,by simpa using hs,h1⟩)).2.2.2;rw[jB hs (.inr rfl)];show(finish (plT key val 2) (pH k [tuEnc ⟨1,0,key,v0⟩])).map _=_;have e:finish (plT key val 2) (pH k [tuEnc ⟨1,0,key,v0⟩])=some (plW (plT key val 2) 2 key val,rk 2 2 2 0 0 2 []):=by
  unfold finish;show(dS (tuEnc ⟨1,0,key,v0⟩) >>= _)=_;rw[pL h1];show(gd (decide (1<=(2:Int))&&!(decide ((2:Int)=0))&&tuOk ⟨1,2,key,v0⟩) >>= λ_=>heapWith (pH k [tuEnc ⟨1,0,key,v0⟩]) 0 (tuEnc ⟨1,2,key,v0⟩) >>= λ_=>write (plT key val 2) >>= λp=>some (p,rk 2 2 2 0 0 2 []))=_;rw[h2,vM (x:=2) hv rfl rfl oM];have hw:heapWith (pH k [tuEnc ⟨1,0,key,v0⟩]) 0 (tuEnc ⟨1,2,key,v0⟩)=some (pH k [tuEnc ⟨1,2,key,v0⟩]):=by show(gd (cR (pH k [tuEnc ⟨1,2,key,v0⟩])) >>= λ_=>some (pH k [tuEnc ⟨1,2,key,v0⟩]))=_;rw[hf];rfl
  rw[hw];rfl
 rw[e];rfl
structure HL (l : List Bs) : Prop where
 n : l.length ≤ 1
 t : ∀ s ∈ l, ∃ t, s = tuEnc t ∧ tuOk t = true
theorem HL.put{l:List Bs}(h:HL l)(ht:tuOk t=true):(l++[tuEnc t]).length<=2/\∀s∈l++[tuEnc t],∃t,s=tuEnc t/\tuOk t=true:=by
 refine⟨by have:=h.n;simp;omega,λs hs=>?_⟩;rcases H9.1 hs with hs|hs
 ·exact h.t s hs
 ·exact⟨t,by simpa using hs,ht⟩
theorem Gp{l:List Bs}(h:HL l):slotOf (pH k l)=some l.length:=by
 unfold slotOf;have:(l.all λs=>!(decide (s=[])))=true:=by rw[G8];intro s hs;obtain⟨t,rfl,ht⟩:=h.t s hs;have:=(jY ht).1;rw[C8 (λe=>by rw[e] at this;simp at this)];rfl
 show(gd (l.all λs=>!(decide (s=[]))) >>= λ_=>some l.length)=_;rw[this];rfl
theorem nc{l:List Bs}(h:HL l)(ht:tuOk t=true)(h0:0<=k):heapPut (pH k l) (tuEnc t)=some (pH k (l++[tuEnc t])):=by have hf:=(bL h0 (h.put ht).1 (h.put ht).2).2.1;show(gd (cR (pH k (l++[tuEnc t]))) >>= λ_=>some (pH k (l++[tuEnc t])))=_;rw[hf];rfl
theorem DZ{l:List Bs}(h:HL l)(hv:Rt key val)(hx:1<=x/\x<=10)(h0:0<=k)(ha:p.ask=putA key val)(ho:p.own=x)(hi:p.item=[]):
  pageP v (see p 2 302) (pH k l)=some (plI (see p 2 302) key l.length,some (rk 1 x 2 l.length 0 0 (tuEnc ⟨x,0,key,val⟩))):=by
 have h1:tuOk ⟨x,0,key,val⟩=true:=hv.tu hx oM;have hs:=(bL h0 (by have:=h.n;omega) h.t).2.2.2;rw[jB (p:=see p 2 302) hs (.inr hi)];show(layP (see p 2 302) (pH k l)).map _=_;have hver:version (see p 2 302)=⟨x,0,key,val⟩:=by show(⟨p.own,0,p.ask.key,p.ask.val⟩:Tu)=_;rw[ha,ho];rfl
 have e:layP (see p 2 302) (pH k l)=some (plI (see p 2 302) key l.length,rk 1 x 2 l.length 0 0 (tuEnc ⟨x,0,key,val⟩)):=by
  unfold layP;rw[hver,h1,Gp h];show(heapPut (pH k l) (tuEnc ⟨x,0,key,val⟩) >>= λ_=>gd (entOk ⟨p.ask.key,2,(l.length:Int)⟩) >>= λ_=>some (see { see p 2 302 with ent:=⟨p.ask.key,2,(l.length:Int)⟩,item:=entB ⟨p.ask.key,2,(l.length:Int)⟩,seen:=0 } 1 362,({ rec0 with kind:=1,xid:=p.own,page:=2,slot:=(l.length:Int),data:=tuEnc ⟨x,0,key,val⟩ }:Rc)))=_;rw[nc h h1 h0,ha,ho,show entOk ⟨(putA key val).key,2,(l.length:Int)⟩=true from ln hv.k (by have:=h.n;omega)]
  rfl
 rw[e];rfl
theorem HN{l:List Bs}(h:HL l)(hv:Rt key val)(hx:1<=x/\x<=10)(h0:0<=k):deed 32 (pH k l) (rk 1 x 2 l.length 0 0 (tuEnc ⟨x,0,key,val⟩))=some (pH k (l++[tuEnc ⟨x,0,key,val⟩])):=by
 have h1:tuOk ⟨x,0,key,val⟩=true:=hv.tu hx oM;show(dS (tuEnc ⟨x,0,key,val⟩) >>= λ_=>gd (decide ((l.length:Int)=(l.length:Int))) >>= λ_=>heapPut (pH k l) (tuEnc ⟨x,0,key,val⟩))=_;rw[pL h1,nc h h1 h0,C9 rfl]
 rfl
theorem qS(hk:keyOk key=true)(h0:0<=k)(hm:m<=1):nodeIn (pA k ((leafL key m).map entB)) ⟨key,2,(m:Int)⟩=some (pA k ((leafL key (m+1)).map entB)):=by
 have hf:=(bU hk h0 (n:=m+1) oM).2.1;have ho:entOk ⟨key,2,(m:Int)⟩=true:=ln hk oM;unfold nodeIn;rw[dM hk h0 oM]
 match m,hm with
 | 0,_=>show(gd (entOk ⟨key,2,((0:Nat):Int)⟩&&true) >>= λ_=>fitsP (pA k ((leafL key 1).map entB)))=_;rw[ho];show(gd (cR (pA k ((leafL key 1).map entB))) >>= λ_=>some (pA k ((leafL key 1).map entB)))=_;rw[hf];rfl
 | 1,_=>
  have hsp:spot (leafL key 1) ⟨key,2,((1:Nat):Int)⟩=1:=by
   show bsGo [⟨key,2,((0:Nat):Int)⟩] ⟨key,2,((1:Nat):Int)⟩ 2 0 1=1;rw[bsGo,C9 (oM:0<1),E3];show(bif decide (dc ⟨key,2,((0:Nat):Int)⟩ ⟨key,2,((1:Nat):Int)⟩<0) then _ else _)=_;rw[DS oM,C9 (oM:(-1:Int)<0),E3,bsGo]
   rfl
  show(gd (entOk ⟨key,2,((1:Nat):Int)⟩&&notAt (leafL key 1) ⟨key,2,((1:Nat):Int)⟩ (spot (leafL key 1) ⟨key,2,((1:Nat):Int)⟩)) >>= λ_=>fitsP { pA k ((leafL key 1).map entB) with items:=putIt ((leafL key 1).map entB) (spot (leafL key 1) ⟨key,2,((1:Nat):Int)⟩) (EB key 1) })=_;rw[ho,hsp];show(gd (cR (pA k ((leafL key 2).map entB))) >>= λ_=>some (pA k ((leafL key 2).map entB)))=_;rw[hf];rfl
theorem HO(hk:keyOk key=true)(h0:0<=k)(hm:m<=1):deed 32 (pA k ((leafL key m).map entB)) (rk 3 x 1 0 0 0 (EB key m))=some (pA k ((leafL key (m+1)).map entB)):=by show(de (EB key m) >>= λe=>nodeIn (pA k ((leafL key m).map entB)) e)=_;rw[kq (ln hk oM)];exact qS hk h0 hm
theorem uJ(hk:keyOk key=true)(h0:0<=k)(hm:m<=1)(ho:p.own=x):pageP v (plI p key m) (pA k ((leafL key m).map entB))=some (fin { plI p key m with seen:=1 } { rp0 with found:=p.hit },some (rk 3 x 1 0 0 0 (EB key m))):=by
 have he:=ln hk (s:=m) oM;have hni:(⟨key,2,(m:Int)⟩:Ent)∉leafL key m:=by unfold leafL;rw[G0];rintro⟨i,hi,e⟩;have:=List.mem_range.1 hi;have e:(i:Int)=m:=I3 Ent.slot e;omega
 rw[jB (bU hk h0 oM).2.2.2 (.inl rfl)];show(enter (plI p key m) (pA k ((leafL key m).map entB))).map _=_;have e:enter (plI p key m) (pA k ((leafL key m).map entB))=some (fin { plI p key m with seen:=1 } { rp0 with found:=p.hit },rk 3 x 1 0 0 0 (EB key m)):=by
  have hl:=uH hk (s:=m) oM;unfold enter;show(gd (entOk ⟨key,2,(m:Int)⟩&&decide ((0:Int)<=0/\(0:Int)<4000)&&decide ((EB key m).length<=1000)) >>= λ_=>blay (pA k ((leafL key m).map entB)) (EB key m) >>= λ_=>some (fin { plI p key m with seen:=0+1 } { rp0 with found:=p.hit },({ rec0 with kind:=3,xid:=p.own,page:=1,data:=EB key m }:Rc)))=_;have eb:blay (pA k ((leafL key m).map entB)) (EB key m)=some (pA k ((leafL key (m+1)).map entB)):=by unfold blay;rw[kq he,dM hk h0 oM];show(gd (!(decide ((⟨key,2,(m:Int)⟩:Ent)∈leafL key m))) >>= λ_=>nodeIn _ _)=_;rw[C8 hni,qS hk h0 hm];rfl
  rw[he,C9 (oM:(EB key m).length<=1000),eb,ho]
  rfl
 rw[e];rfl
theorem HP{b b':UInt8}(h0:0<=k)(hx:1<=x/\x<=10)(h:((b::az 7).set (plN x / 4) (pbyte ((b::az 7).getD (plN x / 4) 0) 2 (mB x)))=b'::az 7):deed 32 (pS k b) (rk 7 x 0 0 0 0 [])=some (pS k b'):=yG h0 hx h
theorem di(h0:0<=k)(b:UInt8):pErr (pS k b)=0/\smP (pS k b)=true:=by
 have:=je (kd:=1) (l:=[bo 1,b::az 7]) h0 ⟨oM,oM⟩ sI (λs hs=>by
  simp only[H2,Nu,NL] at hs;rcases hs with rfl|rfl
  ·have:=iR (n:=1) oM;omega
  ·simp[az])
 exact⟨this.1,this.2.2.2⟩
theorem Ga{l:List Bs}(h:HL l)(ht:tuOk t=true)(h0:0<=k):∃z:Int,roomOf (pH k (l++[tuEnc t]))=some z/\z=510 - bb (pH k (l++[tuEnc t])):=by
 have hh:=bL h0 (h.put ht).1 (h.put ht).2;have hs:slotOf (pH k (l++[tuEnc t]))=some (l++[tuEnc t]).length:=by
  unfold slotOf;have:((l++[tuEnc t]).all λs=>!(decide (s=[])))=true:=by rw[G8];intro s hs;obtain⟨t,rfl,ht⟩:=(h.put ht).2 s hs;have:=(jY ht).1;rw[C8 (λe=>by rw[e] at this;simp at this)];rfl
  show(gd ((l++[tuEnc t]).all λs=>!(decide (s=[]))) >>= λ_=>some (l++[tuEnc t]).length)=_;rw[this];rfl
 have hn:=(h.put ht).1;have h3:=hh.2.2.1;refine⟨((510 - bb (pH k (l++[tuEnc t])):Nat):Int),?_,oM⟩;unfold roomOf;rw[hs];show(gd (decide ((l++[tuEnc t]).length<255)&&decide (bb (pH k (l++[tuEnc t]))<=510)) >>= _)=_;rw[C9 oM,C9 oM];rfl
end
def owU(ow:List (Int×Int))(n k:Int):List (Int×Int):=bif (getD ow n).isNone then bJ ow n k else ow
section
variable{F:List Pf}{ow:List (Int×Int)}{l:Lg}{d:Dk}{st:Pg}{H:List (Bs×Int)}{W:List (Int×Bs)}{T:List (Int×Tx)}{nx:Int}{rm rm':O Int}{fr:Int}{se:List Seat}{pk:Int}{c i j:Nat}{rs n k x s o w u:Int}{dt:Bs}{t:Tx}{b q0:Pg}{ak:Ak}{p p':Pn}{v:Vw}{sx:Seat}
structure Wrt (F : List Pf) (ow : List (Int × Int)) (l : Lg) (T : List (Int × Tx)) (rm rm' : O Int) (c i j : Nat) (rs n k x s o w u : Int) (dt : Bs) (t : Tx) (b q0 : Pg) : Prop where
 L : LO l c rs
 hc : c ≤ 50000
 hrs : 0 ≤ rs ∧ rs ≤ 40000
 ht : getD T (i : Int) = some t
 hx : t.xid = x
 hu : 0 ≤ t.undoes ∧ t.undoes < 1000
 hla : 0 ≤ t.last ∧ t.last < l.tail
 hw : Few k x n s o w dt
 hh : F.findIdx? (fun f => decide (f.num = n)) = some j
 hp : (F.getD j pf0).pg = b
 hs : smP b = true
 hl : b.lsn < l.tail
 hd : deed 32 b (rk k x n s o w dt) = some q0
 hq : pErr (at_l q0 l.tail) = 0
 hk : u = bif undK k then 700 else 0
 hr : (bif decide ((at_l q0 l.tail).kind = 2) then (gd (decide (n = 2)) >>= fun _ => (roomOf (at_l q0 l.tail)).map some) else some rm : O (O Int)) = some rm'
theorem Wrt.wr(h:Wrt F ow l T rm rm' c i j rs n k x s o w u dt t b q0){free:Int}(hf:0<=free/\free<=rs+u):∃l',LO l' (c+1008) (rs+u - free)/\l.tail<l'.tail/\l'.last=l.last /\
   wr (GE F ow l d st H W T nx rm fr se pk) i (rk k x n s o w dt) free=some (GE (F.set j ⟨at_l q0 l.tail,n,true⟩) (owU ow n l.tail) l' d (bif decide (n=0) then at_l q0 l.tail else st) H W (bJ T i (txU t l.tail (undK k))) nx rm' fr se pk):=by
 obtain⟨l',a1,a2,a3,a4⟩:=Lc h.L h.hc h.hrs h.ht h.hx h.hu h.hla h.hw h.hh h.hp h.hs h.hl h.hd h.hq h.hk hf h.hr;exact⟨l',a1,a2,a3,a4⟩
theorem Wrt.show_(h:Wrt F ow l T rm rm' c i j rs n k x s o w u dt t b q0)(hse:se.getD i seat0=bt ak p)(hn:p.wpg=n)(h1:fewT T=true)(h2:smP st=true)(hpp:pageP ⟨32,t.next,t.act,t.xid,running T,st⟩ p b=some (p',some (rk k x n s o w dt)))(hfr:inZ fr=true):
  ∃l',LO l' (c+1008) (rs+u)/\l.tail<l'.tail/\l'.last=l.last /\ M.show_ (GE F ow l d st H W T nx rm fr se pk) i p=some (GE (F.set j ⟨at_l q0 l.tail,n,true⟩) (owU ow n l.tail) l' d (bif decide (n=0) then at_l q0 l.tail else st) H W (bJ T i (txU t l.tail (undK k))) nx rm' fr (se.set i (bt ak p')) pk):=by
 have hrs:=h.hrs;have hu:0<=u:=by rw[h.hk];cases undK k<;>decide
 obtain⟨l',a1,a2,a3,a4⟩:=h.wr (free:=0) oM;rw[Int.sub_zero] at a1;exact⟨l',a1,a2,a3,xm hse (hn▸h.hw.hn) (hn▸h.hh) h.hp h.hs h1 h2 h.ht hpp a4 hfr⟩
theorem Wrt.go(h:Wrt F ow l T rm rm' c i j rs n k x s o w u dt t b q0)(hi:i<se.length)(hse:se.getD i seat0=bt ak p)(hwk:p.wk=3)(hn:p.wpg=n)(h1:fewT T=true)(h2:smP st=true)(hpp:pageP ⟨32,t.next,t.act,t.xid,running T,st⟩ p b=some (p',some (rk k x n s o w dt)))(hfr:inZ fr=true)(h4:p'.wk≠4):
  ∃l',LO l' (c+1008) (rs+u)/\l.tail<l'.tail/\l'.last=l.last /\ stepM (GE F ow l d st H W T nx rm fr se pk) i=some (GE (F.set j ⟨at_l q0 l.tail,n,true⟩) (owU ow n l.tail) l' d (bif decide (n=0) then at_l q0 l.tail else st) H W (bJ T i (txU t l.tail (undK k))) nx rm' fr (se.set i (bt ak p')) pk):=by
 obtain⟨l',a1,a2,a3,a4⟩:=h.show_ hse hn h1 h2 hpp hfr;refine⟨l',a1,a2,a3,?_⟩;rw[cZ (seat_i.trans hse),hwk];show(M.show_ (GE F ow l d st H W T nx rm fr se pk) i p >>= _)=_;rw[a4];exact fe (by rw[seat_i,cA hi];rfl) h4
theorem Wrt.say(h:Wrt F ow l T rm rm' c i j rs n k x s o w u dt t b q0)(hi:i<se.length)(hse:se.getD i seat0=bt ak p)(hwk:p.wk=3)(hn:p.wpg=n)(h1:fewT T=true)(h2:smP st=true)(hpp:pageP ⟨32,t.next,t.act,t.xid,running T,st⟩ p b=some (p',some (rk k x n s o w dt)))(hfr:inZ fr=true)(h4:p'.wk=4)(h5:p'.rep.err=0)(h6:p'.rep.rows=[]):
  ∃l',LO l' (c+1008) (rs+u)/\l.tail<l'.tail/\l'.last=l.last /\ stepM (GE F ow l d st H W T nx rm fr se pk) i=some (GE (F.set j ⟨at_l q0 l.tail,n,true⟩) (owU ow n l.tail) l' d (bif decide (n=0) then at_l q0 l.tail else st) H W (bJ T i (txU t l.tail (undK k))) nx rm' fr (se.set i (fZ p'.rep)) pk):=by
 obtain⟨l',a1,a2,a3,a4⟩:=h.show_ hse hn h1 h2 hpp hfr;refine⟨l',a1,a2,a3,?_⟩;rw[cZ (seat_i.trans hse),hwk];show(M.show_ (GE F ow l d st H W T nx rm fr se pk) i p >>= _)=_;rw[a4];refine(qx (by rw[seat_i,cA hi];rfl) h4 h5 (by rw[h6];exact K3 _)).trans ?_;show some (setSeat (GE _ _ _ _ _ _ _ _ _ _ _ _ _) i { seat0 with told:=true,rep:=p'.rep })=_;rw[aP,set_set]
 rfl
theorem Wrt.room{z:Int}(h:Wrt F ow l T (some z) rm' c i j rs 2 k x s o w u dt t b q0)(hi:i<se.length)(hse:se.getD i seat0=bt ak p)(hwk:p.wk=2)(hz:p.wsz<=z)(h1:fewT T=true)(h2:smP st=true)(hpp:pageP ⟨32,t.next,t.act,t.xid,running T,st⟩ (see p 2 302) b=some (p',some (rk k x 2 s o w dt)))(hfr:inZ fr=true)(h4:p'.wk≠4):
  ∃l',LO l' (c+1008) (rs+u)/\l.tail<l'.tail/\l'.last=l.last /\ stepM (GE F ow l d st H W T nx (some z) fr se pk) i=some (GE (F.set j ⟨at_l q0 l.tail,2,true⟩) (owU ow 2 l.tail) l' d st H W (bJ T i (txU t l.tail (undK k))) nx rm' fr (se.set i (bt ak p')) pk):=by
 obtain⟨l',a1,a2,a3,a4⟩:=h.show_ (cA hi _) rfl h1 h2 hpp hfr;refine⟨l',a1,a2,a3,?_⟩;rw[cZ (seat_i.trans hse),hwk];show((gd (decide (p.wsz<=z)) >>= λ_=>some (GE F ow l d st H W T nx (some z) fr se pk,(2:Int))) >>= λy=>M.show_ (modPlan y.1 i (see p y.2 302)) i (see p y.2 302)) >>= _=_;rw[C9 hz];show(M.show_ (modPlan (GE F ow l d st H W T nx (some z) fr se pk) i (see p 2 302)) i (see p 2 302) >>= _)=_;have e:modPlan (GE F ow l d st H W T nx (some z) fr se pk) i (see p 2 302)=GE F ow l d st H W T nx (some z) fr (se.set i (bt ak (see p 2 302))) pk:=by unfold modPlan;rw[seat_i,hse];rfl
 rw[e,a4,set_set];exact fe (by rw[seat_i,cA hi];rfl) h4
def En(ak:Ak)(nxt en:Int):Seat:={ seat0 with ask:=ak,wk:=.settle,next:=nxt,end_:=en }
theorem Wrt.commit(h:Wrt F ow l T rm rm' c i j rs 0 7 x 0 0 0 u [] t b q0)(hi:i<se.length)(hse:se.getD i seat0=sAsk (aw 6))(hl0:t.last≠0)(h7:700<=rs):
  ∃l',LO l' (c+1008) (rs - 700)/\l.tail<l'.tail/\l'.last=l.last /\ stepM (GE F ow l d st H W T nx rm fr se pk) i=some (GE (F.set j ⟨at_l q0 l.tail,0,true⟩) (owU ow 0 l.tail) l' d (at_l q0 l.tail) H W (bJ T i (txU t l.tail false)) nx rm' fr (se.set i (En (aw 6) t.last (l.tail:Int))) pk):=by
 have hu:u=0:=h.hk;obtain⟨l',a1,a2,a3,a4⟩:=h.wr (free:=700) oM;rw[hu,Int.add_zero] at a1;refine⟨l',a1,a2,a3,?_⟩;unfold stepM;rw[seat_i,hse];show begin (GE F ow l d st H W T nx rm fr se pk) i=_;unfold begin;rw[seat_i,hse];show(getD T (i:Int) >>= _)=_;rw[h.ht];show(bif decide (t.last=0) then _ else M.commit (setSeat (GE F ow l d st H W T nx rm fr se pk) i { sAsk (aw 6) with next:=t.last,wk:=.commit }) i)=_;rw[C8 hl0,E1,aP];unfold M.commit;show(getD T (i:Int) >>= _)=_;rw[h.ht];show M.wr (setSeat (GE F ow l d st H W T nx rm fr (se.set i { sAsk (aw 6) with next:=t.last,wk:=.commit }) pk) i { (se.set i { sAsk (aw 6) with next:=t.last,wk:=.commit }).getD i seat0 with wk:=.settle,end_:=(l.tail:Int) }) i (rk 7 t.xid 0 0 0 0 []) 700=_;rw[cA hi,aP,set_set,h.hx];exact a4
theorem sG(hL:LO l c rs)(ht:getD T (i:Int)=some t)(hn:0<=n/\n<=1000)(hr:700*n<=rs)(hW:W.length<=100):∃l',LO l' c (rs - 700*n)/\l'.tail=l.tail/\l'.last=l.last /\
  close (GE F ow l d st H W T nx rm fr se pk) i n=some (GE F ow l' d st (H.filter λx=>!(decide (x.2=(i:Int)))) (W.filter λx=>!(decide (x.1=(i:Int)))&&!(decide (getD H x.2=some (i:Int)))) (bQ T (i:Int)) nx rm fr se pk):=by
 obtain⟨l',e1,h1,h2,h3,_⟩:=hL.release oM hr;refine⟨l',h1,h2,h3,?_⟩;unfold close;show(getD T (i:Int) >>= _)=_;rw[ht];show(gd (decide (W.length<=100)&&decide (0<=n/\n<=1000000)) >>= λ_=>release (GE F ow l d st H W (bQ T (i:Int)) nx rm fr se pk) (700*n) >>= λe=>some (letGo e i))=_;have e:release (GE F ow l d st H W (bQ T (i:Int)) nx rm fr se pk) (700*n)=some (GE F ow l' d st H W (bQ T (i:Int)) nx rm fr se pk):=by unfold release;show(gd (decide ((l.release (700*n)).2=0)) >>= λ_=>some (lg (GE F ow l d st H W (bQ T (i:Int)) nx rm fr se pk) (l.release (700*n)).1))=_;rw[e1];rfl
 rw[C9 hW,C9 oM,e]
 rfl
theorem rO{en nxt:Int}(hL:LO l c rs)(hD:DO d)(hi:i<se.length)(hse:se.getD i seat0=En ak nxt en)(ht:getD T (i:Int)=some t)(hn:0<=t.undoes/\t.undoes<=1000)(hr:700*t.undoes<=rs)(hW:W.length<=100)(hy:(⟨3002,40,F,ow⟩:Pl).synced=⟨3002,40,F,ow⟩):
  ∃l' d',LO l' c (rs - 700*t.undoes)/\DO d'/\l'.tail=l.tail /\ stepM (GE F ow l d st H W T nx rm fr se pk) i=some (GE F ow l' d' st (H.filter λx=>!(decide (x.2=(i:Int)))) (W.filter λx=>!(decide (x.1=(i:Int)))&&!(decide (getD H x.2=some (i:Int)))) (bQ T (i:Int)) nx rm fr (se.set i (fZ rp0)) pk):=by
 obtain⟨l1,d1,hf,h1,h2,h3⟩:∃l1 d1,M.flush (GE F ow l d st H W T nx rm fr se pk) en=some (GE F ow l1 d1 st H W T nx rm fr se pk)/\LO l1 c rs/\DO d1/\l1.tail=l.tail:=by
  unfold M.flush;show ∃l1 d1,(bif decide (en<(l.last:Int)) then some (GE F ow l d st H W T nx rm fr se pk) else(gd (decide ((l.flush en d).2.2=0)) >>= λ_=>some { GE F ow l d st H W T nx rm fr se pk with s:=⟨(⟨3002,40,F,ow⟩:Pl).synced,(l.flush en d).1,(l.flush en d).2.1⟩ }))=_/\_;by_cases hlt:en<(l.last:Int)
  ·rw[C9 hlt];exact⟨l,d,rfl,hL,hD,rfl⟩
  ·rw[C8 hlt,hy];obtain⟨l1,d1,e,a1,a2,a3⟩:=hL.flush hD en;rw[e];exact⟨l1,d1,rfl,a1,a2,a3⟩
 obtain⟨l2,a1,a2,a3,a4⟩:=sG h1 ht hn hr hW;refine⟨l2,d1,a1,h2,a2.trans h3,?_⟩;unfold stepM;rw[seat_i,hse];show settle (GE F ow l d st H W T nx rm fr se pk) i=_;unfold settle;rw[seat_i,hse];show(M.flush (GE F ow l d st H W T nx rm fr se pk) en >>= _)=_;rw[hf];show(getD T (i:Int) >>= _)=_;rw[ht];show(close (GE F ow l1 d1 st H W T nx rm fr se pk) i t.undoes >>= _)=_;rw[a4]
 rfl
theorem Gx{why:Int}(hL:LO l c rs)(hse:se.getD i seat0={ bt ak p with wk:=.roll,why:=why,next:=0 })(ht:getD T (i:Int)=some t)(hl:t.last=0)(h7:700<=rs)(hW:W.length<=100)(hi:i<se.length):
  ∃l',LO l' c (rs - 700)/\l'.tail=l.tail/\l'.last=l.last /\ stepM (GE F ow l d st H W T nx rm fr se pk) i=some (GE F ow l' d st (H.filter λx=>!(decide (x.2=(i:Int)))) (W.filter λx=>!(decide (x.1=(i:Int)))&&!(decide (getD H x.2=some (i:Int)))) (bQ T (i:Int)) nx rm fr (se.set i (fZ { rp0 with err:=why })) pk):=by
 obtain⟨l1,e1,h1,h2,h3,_⟩:=hL.release oM h7;have hse2:se.set i { ({ bt ak p with wk:=.roll,why:=why,next:=0 }:Seat) with next:=0 }=se:=by
  apply MW;intro m;rw[Ny];by_cases hm:i=m
  ·subst hm;rw[I9 rfl,I9 hi,E0 hi];have:se[i]={ bt ak p with wk:=.roll,why:=why,next:=0 }:=by rw[<- hse,H4,E0 hi];rfl
   rw[this]
  ·rw[I8 hm]
 obtain⟨l2,a1,a2,a3,a4⟩:=sG (n:=0) h1 ht oM oM hW;refine⟨l2,by simpa using a1,a2.trans h2,a3.trans h3,?_⟩;unfold stepM;rw[seat_i,hse];show roll (GE F ow l d st H W T nx rm fr se pk) i=_;unfold roll;rw[seat_i];show(getD T (i:Int) >>= _)=_;rw[ht];show(chain (GE F ow l d st H W T nx rm fr se pk) 100 (se.getD i seat0).next >>= _)=_;rw[hse];show((bif decide (t.last=0) then release (setSeat (GE F ow l d st H W T nx rm fr se pk) i { ({ bt ak p with wk:=.roll,why:=why,next:=0 }:Seat) with next:=0 }) 700 else _) >>= λe=>close e i 0 >>= λe=>some (say e i { rp0 with err:=(seatAt e i).why }))=_;rw[C9 hl,aP,hse2];have e:release (GE F ow l d st H W T nx rm fr se pk) 700=some (GE F ow l1 d st H W T nx rm fr se pk):=by unfold release;show(gd (decide ((l.release 700).2=0)) >>= λ_=>some (lg (GE F ow l d st H W T nx rm fr se pk) (l.release 700).1))=_;rw[e1];rfl
 rw[E3,e];show(close (GE F ow l1 d st H W T nx rm fr se pk) i 0 >>= _)=_;rw[a4];show some (say (GE _ _ _ _ _ _ _ _ _ _ _ _ _) i { rp0 with err:=(se.getD i seat0).why })=_;rw[hse]
 rfl
end
def ia(a:Bool):Nat:=bif a then 1 else 2
def ib(a:Bool):Nat:=bif a then 2 else 1
def SE(a:Bool)(x y:Seat):List Seat:=bif a then[seat0,x,y,seat0,seat0,seat0,seat0,seat0] else[seat0,y,x,seat0,seat0,seat0,seat0,seat0]
def TL(a:Bool)(x y:Tx):List (Int×Tx):=bif a then[(1,x),(2,y)] else[(1,y),(2,x)]
section
variable{a w:Bool}{x y x' y':Seat}{t t' s s':Tx}{key v0 va vb:Bs}
theorem DD:(SE a x y).length=8:=by cases a<;>rfl
theorem oO:ia a<(SE a x y).length:=by rw[DD];cases a<;>decide
theorem wP:ib a<(SE a x y).length:=by rw[DD];cases a<;>decide
theorem xR:(SE a x y).getD (ia a) seat0=x:=by cases a<;>rfl
theorem xS:(SE a x y).getD (ib a) seat0=y:=by cases a<;>rfl
theorem kH:(SE a x y).set (ia a) x'=SE a x' y:=by cases a<;>rfl
theorem pX:(SE a x y).set (ib a) y'=SE a x y':=by cases a<;>rfl
theorem DG:getD (TL a t s) (ia a:Int)=some t:=by cases a<;>rfl
theorem Md:getD (TL a t s) (ib a:Int)=some s:=by cases a<;>rfl
theorem xT:bJ (TL a t s) (ia a:Int) t'=TL a t' s:=by cases a<;>rfl
theorem Kb:bJ (TL a t s) (ib a:Int) s'=TL a t s':=by cases a<;>rfl
theorem Me:bQ (TL a t s) (ia a:Int)=[((ib a:Int),s)]:=by cases a<;>rfl
def sB(w:Bool)(key vb:Bs):Seat:=bif w then bt (putA key vb) (jD (putA key vb) 3) else sAsk (putA key vb)
def tB(w:Bool):Tx:=⟨2,[],bif w then 3 else 0,0,0,0⟩
def wB(a w:Bool)(key:Bs):List (Int×Bs):=bif w then[((ib a:Int),key)] else[]
def nB(w:Bool):Int:=bif w then 4 else 3
def rB(w:Bool):Int:=bif w then 700 else 0
def tA(f q u:Int):Tx:=⟨2,[],2,f,q,u⟩
theorem IL{f q u:Int}:running (TL a (tA f q u) (tB w))=bif w then[2,3] else[2]:=by cases a<;>cases w<;>rfl
theorem wI{f q u:Int}:fewT (TL a (tA f q u) (tB w))=true:=by cases a<;>cases w<;>rfl
theorem KS{f q u:Int}{z:Int}(hz:z≠2/\z≠3):z∉running (TL a (tA f q u) (tB w)):=by rw[IL];cases w<;>simp[hz]
def F3(p0 p1 p2:Pg):List Pf:=[⟨p0,0,true⟩,⟨p1,1,true⟩,⟨p2,2,true⟩,pf0,pf0]
def O3(o0 o1 o2:Int):List (Int×Int):=[(2,o2),(1,o1),(0,o0)]
section
variable{p0 p1 p2 q:Pg}{o0 o1 o2:Int}
theorem LR:(F3 p0 p1 p2).findIdx? (λf=>decide (f.num=0))=some 0:=rfl
theorem Jm:(F3 p0 p1 p2).findIdx? (λf=>decide (f.num=1))=some 1:=rfl
theorem GP:(F3 p0 p1 p2).findIdx? (λf=>decide (f.num=2))=some 2:=rfl
theorem JS:(F3 p0 p1 p2).set 0 ⟨q,0,true⟩=F3 q p1 p2:=rfl
theorem JT:(F3 p0 p1 p2).set 1 ⟨q,1,true⟩=F3 p0 q p2:=rfl
theorem Ha:(F3 p0 p1 p2).set 2 ⟨q,2,true⟩=F3 p0 p1 q:=rfl
theorem Ma{k:Int}:owU (O3 o0 o1 o2) 0 k=O3 o0 o1 o2:=rfl
theorem Mb{k:Int}:owU (O3 o0 o1 o2) 1 k=O3 o0 o1 o2:=rfl
theorem Ll{k:Int}:owU (O3 o0 o1 o2) 2 k=O3 o0 o1 o2:=rfl
theorem Lm:(⟨3002,40,F3 p0 p1 p2,O3 o0 o1 o2⟩:Pl).synced=⟨3002,40,F3 p0 p1 p2,O3 o0 o1 o2⟩:=rfl
end
structure SA (key vb : Bs) (a w : Bool) (c : Nat) (r : Int) (b0 : UInt8) (m : Nat) (vs : List Bs) (u : Int) (sa : Seat) (e : E) : Prop where
 ex : ∃ (l : Lg) (d : Dk) (k0 k1 k2 o0 o1 o2 f q z pk : Int), e = GE (F3 (pS k0 b0) (pA k1 ((leafL key m).map entB)) (pH k2 vs)) (O3 o0 o1 o2) l d (pS k0 b0) [(key, (ia a : Int))] (wB a w key) (TL a (tA f q u) (tB w)) (nB w) (some z) 3 (SE a sa (sB w key vb)) pk ∧
  LO l c (r + rB w) ∧ DO d ∧ (0 ≤ k0 ∧ k0 < l.tail) ∧ (0 ≤ k1 ∧ k1 < l.tail) ∧ (0 ≤ k2 ∧ k2 < l.tail) ∧ (0 ≤ q ∧ q < l.tail) ∧ (u ≠ 0 → q ≠ 0) ∧ (vs.length ≤ 1 → 120 ≤ z)
theorem SA.other{c m:Nat}{r u:Int}{b0:UInt8}{vs:List Bs}{sa:Seat}{e:E}(h:SA key vb a false c r b0 m vs u sa e)(hv:Rt key vb)(hc:c<=50000)(hr:0<=r/\r<=30000)(k:Int):
  ∃e',stepM { e with pick:=k } (ib a)=some e'/\SA key vb a true c r b0 m vs u sa e':=by
 obtain⟨l,d,k0,k1,k2,o0,o1,o2,f,q,z,pk,rfl,hL,hD,h0,h1,h2,hq,hqu,hz⟩:=h.ex;have hL':LO l c r:=by have:r+rB false=r:=Int.add_zero r;rwa [this] at hL
 obtain⟨l',b1,b2,b3,b4⟩:=kD (T:=TL a (tA f q u) (tB false)) (nx:=3) hL' hc oM wP xS hv.k hv.v Md rfl oM (by rw[IL];decide) wI;refine⟨GE (F3 (pS k0 b0) (pA k1 ((leafL key m).map entB)) (pH k2 vs)) (O3 o0 o1 o2) l' d (pS k0 b0) [(key,(ia a:Int))] (wB a true key) (TL a (tA f q u) (tB true)) (nB true) (some z) 3 (SE a sa (sB true key vb)) k,?_,⟨l',d,k0,k1,k2,o0,o1,o2,f,q,z,k,rfl,b1,hD,oM,oM,oM,oM,hqu,hz⟩⟩;refine b4.trans ?_;rw[pX,Kb];rw[cZ (seat_i.trans xS)]
 show((tryK (GE (F3 (pS k0 b0) (pA k1 ((leafL key m).map entB)) (pH k2 vs)) (O3 o0 o1 o2) l' d (pS k0 b0) [(key,(ia a:Int))] [] (TL a (tA f q u) (tB true)) 4 (some z) 3 (SE a sa (sB true key vb)) k) (ib a) key >>= λy=>some (modPlan y.1 (ib a) (match y.2 with
      | 0=>look (jD (putA key vb) 3)
      | 1=>jD (putA key vb) 3
      | _=>fin (jD (putA key vb) 3) { rp0 with err:=181 }))) >>= λe=>ended e (ib a))=_
 have ht:tryK (GE (F3 (pS k0 b0) (pA k1 ((leafL key m).map entB)) (pH k2 vs)) (O3 o0 o1 o2) l' d (pS k0 b0) [(key,(ia a:Int))] [] (TL a (tA f q u) (tB true)) 4 (some z) 3 (SE a sa (sB true key vb)) k) (ib a) key=some (GE (F3 (pS k0 b0) (pA k1 ((leafL key m).map entB)) (pH k2 vs)) (O3 o0 o1 o2) l' d (pS k0 b0) [(key,(ia a:Int))] (wB a true key) (TL a (tA f q u) (tB true)) 4 (some z) 3 (SE a sa (sB true key vb)) k,1):=by unfold tryK;show(bif decide ((getD [(key,(ia a:Int))] key).getD (ib a)=(ib a:Int)) then _ else(ringsM [(key,(ia a:Int))] [] (ib a) 9 ((getD [(key,(ia a:Int))] key).getD (ib a)) >>= _))=_;rw[show getD [(key,(ia a:Int))] key=some (ia a:Int) from by rw[Go.Al.getD_cons,I9 rfl],M1];cases a<;>rfl
 rw[ht];show ended (modPlan (GE _ _ _ _ _ _ _ _ _ _ _ (SE a sa (sB true key vb)) _) (ib a) (jD (putA key vb) 3)) (ib a)=_;unfold modPlan;rw[seat_i,xS,aP,pX];exact fe (by rw[seat_i,xS]) (by show(1:Int)≠4;decide)
theorem SA.runs{c m:Nat}{r u:Int}{b0:UInt8}{vs:List Bs}{sa:Seat}{e:E}(h:SA key vb a w c r b0 m vs u sa e) (hs:(match sa.wk with
  | .none=>false
  | _=>true)=true):runnable e=bif w then[ia a] else[1,2]:=by
 obtain⟨l,d,k0,k1,k2,o0,o1,o2,f,q,z,pk,rfl,_⟩:=h.ex;have hg:∀i,goes (GE (F3 (pS k0 b0) (pA k1 ((leafL key m).map entB)) (pH k2 vs)) (O3 o0 o1 o2) l d (pS k0 b0) [(key,(ia a:Int))] (wB a w key) (TL a (tA f q u) (tB w)) (nB w) (some z) 3 (SE a sa (sB w key vb)) pk) i=((match ((SE a sa (sB w key vb)).getD i seat0).wk with
  | .none=>false
  | _=>true)&&(getD (wB a w key) (i:Int)).isNone):=λ_=>rfl
 unfold runnable;have e8:List.range 8=[0,1,2,3,4,5,6,7]:=rfl;rw[e8];cases a<;>cases w
 all_goals
  simp only[List.filter,hg];simp only[SE,sB,wB,ib,ia,E3,E1,List.getD_cons_zero,List.getD_cons_succ];simp only[hs]
  rfl
end
section
variable{a w:Bool}{key v0 va vb:Bs}{c m:Nat}{r u:Int}{b0:UInt8}{vs:List Bs}{sa:Seat}{e:E}{k:Int}
abbrev old(key v0:Bs)(x:Int):Bs:=tuEnc ⟨1,x,key,v0⟩
abbrev new(key va:Bs):Bs:=tuEnc ⟨2,0,key,va⟩
theorem nz(h:Rt key v0){x:Int}(hx:0<=x/\x<=10){k:Int}(hk:0<=k):HL [old key v0 x]:=⟨E4 _,λs hs=>⟨_,by simpa using hs,h.tu oM hx⟩⟩
theorem SA.a2(h:SA key vb a w c r b0 1 vs u (bt (putA key va) (plL key va 2)) e)(hk:keyOk key=true)(k:Int):
  ∃e',stepM { e with pick:=k } (ia a)=some e'/\SA key vb a w c r b0 1 vs u (bt (putA key va) (plD key va 2 (leafL key 1))) e':=by
 obtain⟨l,d,k0,k1,k2,o0,o1,o2,f,q,z,pk,rfl,hL,hD,h0,h1,h2,hq,hqu,hz⟩:=h.ex;refine⟨_,mj (se:=SE a (bt (putA key va) (plL key va 2)) (sB w key vb)) oO xR rfl (by show(0:Int)<=1/\(1:Int)<40;omega) Jm rfl (bU hk h1.1 oM).2.2.2 wI (di h0.1 _).2 DG (uG hk h1.1 oM) (by show(3:Int)≠4;decide),?_⟩;rw[kH];exact⟨l,d,k0,k1,k2,o0,o1,o2,f,q,z,k,rfl,hL,hD,h0,h1,h2,hq,hqu,hz⟩
theorem SA.a3(h:SA key vb a w c r 2 1 [old key v0 0] u (bt (putA key va) (plD key va 2 (leafL key 1))) e)(hv:Rt key v0)(k:Int):
  ∃e',stepM { e with pick:=k } (ia a)=some e'/\SA key vb a w c r 2 1 [old key v0 0] u (bt (putA key va) (plT key va 2)) e':=by
 obtain⟨l,d,k0,k1,k2,o0,o1,o2,f,q,z,pk,rfl,hL,hD,h0,h1,h2,hq,hqu,hz⟩:=h.ex;have hr1:(1:Int)∉running (TL a (tA f q u) (tB w)):=KS oM;have hsee:sees ⟨32,2,[],2,running (TL a (tA f q u) (tB w)),pS k0 2⟩ 1=some true:=nS h0.1 oM hr1 oM rfl Mf;have hvi:visible ⟨32,2,[],2,running (TL a (tA f q u) (tB w)),pS k0 2⟩ ⟨1,0,key,v0⟩=some true:=by show(sees ⟨32,2,[],2,running (TL a (tA f q u) (tB w)),pS k0 2⟩ 1 >>= _)=_;rw[hsee];rfl
 have hne:newer ⟨32,2,[],2,running (TL a (tA f q u) (tB w)),pS k0 2⟩ ⟨1,0,key,v0⟩=some false:=by
  have h3:unseen ⟨32,2,[],2,running (TL a (tA f q u) (tB w)),pS k0 2⟩ 1=some false:=by show(sees ⟨32,2,[],2,running (TL a (tA f q u) (tB w)),pS k0 2⟩ 1 >>= _)=_;rw[hsee];rfl
  show(unseen ⟨32,2,[],2,running (TL a (tA f q u) (tB w)),pS k0 2⟩ 1 >>= _)=_;rw[h3];rfl
 have ho:tuOk ⟨((1:Nat):Int),((0:Nat):Int),key,v0⟩=true:=hv.tu oM oM;have hsm:=(bL h2.1 (l:=[old key v0 0]) sI (nz hv oM h2.1).t).2.2.2;have hpp:=gv (p:=plD key va 2 (leafL key 1)) ho rfl (by show(0:Int)<=0;omega) rfl hsm rfl rfl (by show 0<=1000;omega) rfl hvi;have hpp2:pageP ⟨32,2,[],2,running (TL a (tA f q u) (tB w)),pS k0 2⟩ (plD key va 2 (leafL key 1)) (pH k2 [old key v0 0])=some (plT key va 2,none):=by refine hpp.trans ?_;show((newer ⟨32,2,[],2,running (TL a (tA f q u) (tB w)),pS k0 2⟩ ⟨1,0,key,v0⟩ >>= _).map _)=_;rw[hne];rfl
 refine⟨_,mj (se:=SE a (bt (putA key va) (plD key va 2 (leafL key 1))) (sB w key vb)) oO xR rfl (by show(0:Int)<=2/\(2:Int)<40;omega) GP rfl hsm wI (di h0.1 _).2 DG hpp2 (by show(3:Int)≠4;decide),?_⟩;rw[kH];exact⟨l,d,k0,k1,k2,o0,o1,o2,f,q,z,k,rfl,hL,hD,h0,h1,h2,hq,hqu,hz⟩
theorem CA{k s o w:Int}{dt:Bs}(hk:dkB k=true)(hk':1<=k/\k<=8)(hs:0<=s/\s<=10)(ho:0<=o/\o<=10)(hw:0<=w/\w<=10)(hd:dt.length<=200){n:Int}(hn:0<=n/\n<40):Few k 2 n s o w dt:=⟨hk,hk',oM,hn,oM,oM,oM,hd⟩
theorem lD{l:List Bs}(h:HL l){t:Tu}(ht:tuOk t=true){k:Int}(h0:0<=k){rm:O Int}:∃z,(bif decide ((pH k (l++[tuEnc t])).kind=2) then(gd (decide ((2:Int)=2)) >>= λ_=>(roomOf (pH k (l++[tuEnc t]))).map some) else some rm:O (O Int))=some (some z)/\((l++[tuEnc t]).length<=1->120<=z):=by
 obtain⟨z,e,hz⟩:=Ga h ht h0;refine⟨z,?_,λhl=>?_⟩
 ·show(roomOf (pH k (l++[tuEnc t]))).map some=_;rw[e];rfl
 ·have:l=[]:=H3 (by simp at hl;simp[hl]);subst this;have:=(jY ht).2;have e2:bb (pH k ([]++[tuEnc t]))=20+(2+(tuEnc t).length):=rfl;rw[e2] at hz;omega
theorem SA.a4(h:SA key vb a w c r 2 1 [old key v0 0] 0 (bt (putA key va) (plT key va 2)) e)(hv:Rt key v0)(hva:Rt key va)(hc:c<=40000)(hr:0<=r/\r<=30000)(k:Int):
  ∃e',stepM { e with pick:=k } (ia a)=some e'/\SA key vb a w (c+1008) (r+700) 2 1 [old key v0 2] 1 (bt (putA key va) (plW (plT key va 2) 2 key va)) e':=by
 obtain⟨l,d,k0,k1,k2,o0,o1,o2,f,q,z,pk,rfl,hL,hD,h0,h1,h2,hq,hqu,hz⟩:=h.ex;have hw7:0<=rB w/\rB w<=700:=by cases w<;>decide
 have htl:=hL.tail;have hsm:=(bL h2.1 (l:=[old key v0 0]) sI (nz hv oM h2.1).t).2.2.2;have h0t:(0:Int)<=l.tail:=oM;have hqe:=(bL h0t (l:=[old key v0 2]) sI (nz hv oM h0t).t).1;obtain⟨z',ez,hz'⟩:=lD (l:=[]) ⟨K3 _,λs hs=>by cases hs⟩ (hv.tu (x:=1) (y:=2) oM oM) h0t;have hW:Wrt (F3 (pS k0 2) (pA k1 ((leafL key 1).map entB)) (pH k2 [old key v0 0])) (O3 o0 o1 o2) l (TL a (tA f q 0) (tB w)) (some z) (some z') c (ia a) 2 (r+rB w) 2 2 2 0 0 2 700 [] (tA f q 0) (pH k2 [old key v0 0]) (pH k2 [old key v0 2]):=⟨hL,oM,oM,DG,rfl,by show(0:Int)<=0/\(0:Int)<1000;omega,hq,CA rfl oM oM oM oM sI oM,GP,rfl,hsm,h2.2,GI hv h2.1,hqe,rfl,ez⟩;obtain⟨l',b1,b2,b3,b4⟩:=hW.go (fr:=3) oO xR rfl rfl wI (di h0.1 _).2 (zp hv hva h2.1) rfl (by show(2:Int)≠4;decide);refine⟨_,b4,?_⟩;rw[kH,xT,Ha,Ll];exact⟨l',d,k0,k1,l.tail,o0,o1,o2,_,l.tail,z',k,rfl,by rw[(oM:r+700+rB w=r+rB w+700)];exact b1,hD,oM,oM,oM,oM,λ_=>oM,hz'⟩
theorem SA.a5(h:SA key vb a w c r 2 1 [old key v0 2] 1 (bt (putA key va) (plW (plT key va 2) 2 key va)) e)(hv:Rt key v0)(hva:Rt key va)(hc:c<=40000)(hr:0<=r/\r<=30000)(k:Int):
  ∃e',stepM { e with pick:=k } (ia a)=some e'/\SA key vb a w (c+1008) (r+700) 2 1 [old key v0 2,new key va] 2 (bt (putA key va) (plI (see (plW (plT key va 2) 2 key va) 2 302) key 1)) e':=by
 obtain⟨l,d,k0,k1,k2,o0,o1,o2,f,q,z,pk,rfl,hL,hD,h0,h1,h2,hq,hqu,hz⟩:=h.ex;have hw7:0<=rB w/\rB w<=700:=by cases w<;>decide
 have htl:=hL.tail;have h0t:(0:Int)<=l.tail:=oM;have hHL:=nz hv (x:=2) oM h2.1;have hsm:=(bL h2.1 sI hHL.t).2.2.2;have hnt:tuOk ⟨2,0,key,va⟩=true:=hva.tu oM oM;have hqe:=(bL h0t (hHL.put hnt).1 (hHL.put hnt).2).1;obtain⟨z',ez,hz'⟩:=lD hHL hnt h0t;have hnl:(new key va).length<=120:=(jY hnt).2;have hW:Wrt (F3 (pS k0 2) (pA k1 ((leafL key 1).map entB)) (pH k2 [old key v0 2])) (O3 o0 o1 o2) l (TL a (tA f q 1) (tB w)) (some z) (some z') c (ia a) 2 (r+rB w) 2 1 2 1 0 0 700 (new key va) (tA f q 1) (pH k2 [old key v0 2]) (pH k2 ([old key v0 2]++[new key va])):=⟨hL,oM,oM,DG,rfl,by show(0:Int)<=1/\(1:Int)<1000;omega,hq,CA rfl oM oM oM oM oM oM,GP,rfl,hsm,h2.2,HN hHL hva oM h2.1,hqe,rfl,ez⟩;obtain⟨l',b1,b2,b3,b4⟩:=hW.room (fr:=3) (se:=SE a (bt (putA key va) (plW (plT key va 2) 2 key va)) (sB w key vb)) oO xR rfl (by have:=hz sI;show((new key va).length:Int)<=z;omega) wI (di h0.1 _).2 (DZ hHL hva oM h2.1 rfl rfl rfl) rfl (by show(3:Int)≠4;decide);refine⟨_,b4,?_⟩;rw[kH,xT,Ha,Ll];exact⟨l',d,k0,k1,l.tail,o0,o1,o2,_,l.tail,z',k,rfl,by rw[(oM:r+700+rB w=r+rB w+700)];exact b1,hD,oM,oM,oM,oM,λ_=>oM,hz'⟩
theorem SA.a6{p:Pn}(h:SA key vb a w c r 2 1 vs 2 (bt (putA key va) (plI p key 1)) e)(hk:keyOk key=true)(ho:p.own=2)(hc:c<=40000)(hr:0<=r/\r<=30000)(k:Int):
  ∃e',stepM { e with pick:=k } (ia a)=some e'/\SA key vb a w (c+1008) r 2 2 vs 2 (fZ { rp0 with found:=p.hit }) e':=by
 obtain⟨l,d,k0,k1,k2,o0,o1,o2,f,q,z,pk,rfl,hL,hD,h0,h1,h2,hq,hqu,hz⟩:=h.ex;have hw7:0<=rB w/\rB w<=700:=by cases w<;>decide
 have htl:=hL.tail;have h0t:(0:Int)<=l.tail:=oM;have hsm:=(bU hk h1.1 (n:=1) oM).2.2.2;have hqe:=(bU hk h0t (n:=2) oM).1;have hel:=uH hk (s:=((1:Nat):Int)) oM;have hW:Wrt (F3 (pS k0 2) (pA k1 ((leafL key 1).map entB)) (pH k2 vs)) (O3 o0 o1 o2) l (TL a (tA f q 2) (tB w)) (some z) (some z) c (ia a) 1 (r+rB w) 1 3 2 0 0 0 0 (EB key ((1:Nat):Int)) (tA f q 2) (pA k1 ((leafL key 1).map entB)) (pA k1 ((leafL key 2).map entB)):=⟨hL,oM,oM,DG,rfl,by show(0:Int)<=2/\(2:Int)<1000;omega,hq,CA rfl oM oM oM oM oM oM,Jm,rfl,hsm,h1.2,HO hk h1.1 oM,hqe,rfl,rfl⟩;obtain⟨l',b1,b2,b3,b4⟩:=hW.say (fr:=3) oO xR rfl rfl wI (di h0.1 _).2 (uJ hk h1.1 oM ho) rfl rfl rfl rfl;refine⟨_,b4,?_⟩;rw[kH,xT,JT,Mb];exact⟨l',d,k0,l.tail,k2,o0,o1,o2,_,l.tail,z,k,rfl,by rw[(oM:r+rB w=r+rB w+0)];exact b1,hD,oM,oM,oM,oM,λ_=>oM,hz⟩
theorem SA.a8(h:SA key vb a w c r 2 m vs 2 (sAsk (aw 6)) e)(hc:c<=40000)(hr:700<=r/\r<=30000)(k:Int):
  ∃e' nxt en,stepM { e with pick:=k } (ia a)=some e'/\SA key vb a w (c+1008) (r - 700) 10 m vs 2 (En (aw 6) nxt en) e':=by
 obtain⟨l,d,k0,k1,k2,o0,o1,o2,f,q,z,pk,rfl,hL,hD,h0,h1,h2,hq,hqu,hz⟩:=h.ex;have hw7:0<=rB w/\rB w<=700:=by cases w<;>decide
 have htl:=hL.tail;have h0t:(0:Int)<=l.tail:=oM;have hW:Wrt (F3 (pS k0 2) (pA k1 ((leafL key m).map entB)) (pH k2 vs)) (O3 o0 o1 o2) l (TL a (tA f q 2) (tB w)) (some z) (some z) c (ia a) 0 (r+rB w) 0 7 2 0 0 0 0 [] (tA f q 2) (pS k0 2) (pS k0 10):=⟨hL,oM,oM,DG,rfl,by show(0:Int)<=2/\(2:Int)<1000;omega,hq,CA rfl oM oM oM oM sI oM,LR,rfl,(di h0.1 _).2,h0.2,HP h0.1 oM MH,(di h0t 10).1,rfl,rfl⟩;obtain⟨l',b1,b2,b3,b4⟩:=hW.commit oO xR (hqu dC) oM;refine⟨_,q,(l.tail:Int),b4,?_⟩;rw[kH,xT,JS,Ma];exact⟨l',d,l.tail,k1,k2,o0,o1,o2,_,l.tail,z,k,rfl,by rw[(oM:r - 700+rB w=r+rB w - 700)];exact b1,hD,oM,oM,oM,oM,λ_=>oM,hz⟩
end
section
variable{a w:Bool}{key v0 va vb:Bs}{c m:Nat}{r u nx:Int}{b0:UInt8}{vs:List Bs}{sa sb:Seat}{e:E}{k:Int}{H:List (Bs×Int)}{T:List (Int×Tx)}{tb:Tx}
structure SB (key : Bs) (a : Bool) (c : Nat) (r : Int) (vs : List Bs) (H : List (Bs × Int)) (T : List (Int × Tx)) (nx : Int) (sa sb : Seat) (e : E) : Prop where
 ex : ∃ (l : Lg) (d : Dk) (k0 k1 k2 o0 o1 o2 z pk : Int), e = GE (F3 (pS k0 10) (pA k1 ((leafL key 2).map entB)) (pH k2 vs)) (O3 o0 o1 o2) l d (pS k0 10) H [] T nx (some z) 3 (SE a sa sb) pk ∧
  LO l c r ∧ DO d ∧ 0 ≤ k0 ∧ 0 ≤ k1 ∧ 0 ≤ k2
theorem SA.a9{nxt en:Int}(h:SA key vb a w c r 10 2 vs 2 (En (aw 6) nxt en) e)(hr:1400<=r)(k:Int):
  ∃e',stepM { e with pick:=k } (ia a)=some e'/\SB key a c (r - 1400+rB w) vs [] [((ib a:Int),tB w)] (nB w) (fZ rp0) (sB w key vb) e':=by
 obtain⟨l,d,k0,k1,k2,o0,o1,o2,f,q,z,pk,rfl,hL,hD,h0,h1,h2,hq,hqu,hz⟩:=h.ex;have hw7:0<=rB w/\rB w<=700:=by cases w<;>decide
 obtain⟨l',d',b1,b2,b3,b4⟩:=rO (H:=[(key,(ia a:Int))]) (W:=wB a w key) (t:=tA f q 2) hL hD oO xR DG (by show(0:Int)<=2/\(2:Int)<=1000;omega) (by show 700*(2:Int)<=r+rB w;omega) (by cases w<;>simp[wB]) Lm;refine⟨_,b4,?_⟩;have eH:([(key,(ia a:Int))].filter λx=>!(decide (x.2=(ia a:Int))))=[]:=by simp
 have eW:((wB a w key).filter λx=>!(decide (x.1=(ia a:Int)))&&!(decide (getD [(key,(ia a:Int))] x.2=some (ia a:Int))))=[]:=by
  cases w with
  | false=>rfl
  | true=>show([((ib a:Int),key)].filter λx=>!(decide (x.1=(ia a:Int)))&&!(decide (getD [(key,(ia a:Int))] x.2=some (ia a:Int))))=[];simp[Go.Al.getD_cons]
 rw[eH,eW,Me,kH];exact⟨l',d',k0,k1,k2,o0,o1,o2,z,k,rfl,by rw[show r - 1400+rB w=r+rB w - 700*(tA f q 2).undoes by show r - 1400+rB w=r+rB w - 700*2;omega];exact b1,b2,h0.1,h1.1,h2.1⟩
def t3:Tx:=⟨2,[],3,0,0,0⟩
theorem Eu{k:Int}(h:SB key a c r vs [] [((ib a:Int),t3)] 4 sa (bt (putA key vb) (jD (putA key vb) 3)) e):
  ∃e',stepM { e with pick:=k } (ib a)=some e'/\SB key a c r vs [(key,(ib a:Int))] [((ib a:Int),t3)] 4 sa (bt (putA key vb) (plL key vb 3)) e':=by
 obtain⟨l,d,k0,k1,k2,o0,o1,o2,z,pk,rfl,hL,hD,h0,h1,h2⟩:=h.ex;refine⟨_,tS (se:=SE a sa (bt (putA key vb) (jD (putA key vb) 3))) wP xS rfl rfl,?_⟩;rw[pX];exact⟨l,d,k0,k1,k2,o0,o1,o2,z,k,rfl,hL,hD,h0,h1,h2⟩
theorem SB.b1(h:SB key a c (r+rB w) vs [] [((ib a:Int),tB w)] (nB w) sa (sB w key vb) e)(hv:Rt key vb)(hc:c<=50000)(hr:0<=r/\r<=30000)(k:Int):
  ∃e',stepM { e with pick:=k } (ib a)=some e'/\SB key a c (r+700) vs [(key,(ib a:Int))] [((ib a:Int),t3)] 4 sa (bt (putA key vb) (plL key vb 3)) e':=by
 cases w with
 | true=>exact Eu h
 | false=>
  obtain⟨l,d,k0,k1,k2,o0,o1,o2,z,pk,rfl,hL,hD,h0,h1,h2⟩:=h.ex;have hL':LO l c r:=by have:r+rB false=r:=Int.add_zero r;rwa [this] at hL
  have hg:getD [((ib a:Int),tB false)] (ib a:Int)=some (tB false):=by cases a<;>rfl
  have hs:bJ [((ib a:Int),tB false)] (ib a:Int) { tB false with xid:=3 }=[((ib a:Int),t3)]:=by cases a<;>rfl
  obtain⟨l',b1,b2,b3,b4⟩:=kD (nx:=3) hL' hc oM wP xS hv.k hv.v hg rfl oM (by cases a<;>decide) (by cases a<;>rfl);rw[hs,pX] at b4;obtain⟨e',c1,c2⟩:=Eu ⟨l',d,k0,k1,k2,o0,o1,o2,z,k,rfl,b1,hD,h0,h1,h2⟩;exact⟨e',b4.trans c1,c2⟩
theorem KZ:getD [((ib a:Int),t3)] (ib a:Int)=some t3:=by cases a<;>rfl
theorem Et:fewT [((ib a:Int),t3)]=true:=by cases a<;>rfl
theorem IW:running [((ib a:Int),t3)]=[3]:=by cases a<;>rfl
theorem SB.b2(h:SB key a c r vs H [((ib a:Int),t3)] 4 sa (bt (putA key vb) (plL key vb 3)) e)(hk:keyOk key=true)(k:Int):
  ∃e',stepM { e with pick:=k } (ib a)=some e'/\SB key a c r vs H [((ib a:Int),t3)] 4 sa (bt (putA key vb) (plD key vb 3 (leafL key 2))) e':=by
 obtain⟨l,d,k0,k1,k2,o0,o1,o2,z,pk,rfl,hL,hD,h0,h1,h2⟩:=h.ex;refine⟨_,mj (se:=SE a sa (bt (putA key vb) (plL key vb 3))) wP xS rfl (by show(0:Int)<=1/\(1:Int)<40;omega) Jm rfl (bU hk h1 oM).2.2.2 Et (di h0 _).2 KZ (uG hk h1 oM) (by show(3:Int)≠4;decide),?_⟩;rw[pX];exact⟨l,d,k0,k1,k2,o0,o1,o2,z,k,rfl,hL,hD,h0,h1,h2⟩
theorem IR{F:List Pf}{ow:List (Int×Int)}{l:Lg}{d:Dk}{st:Pg}{W:List (Int×Bs)}{rm:O Int}{fr:Int}{se:List Seat}{pk:Int}{i j:Nat}{t:Tx}{b:Pg}{ak:Ak}{p p':Pn}
  (hi:i<se.length) (hse:se.getD i seat0=bt ak p) (hwk:p.wk=3) (hn:0<=p.wpg/\p.wpg<40) (hh:F.findIdx? (λf=>decide (f.num=p.wpg))=some j) (hb:(F.getD j pf0).pg=b) (hs:smP b=true)
  (h1:fewT T=true) (h2:smP st=true) (h3:getD T (i:Int)=some t) (hpp:pageP ⟨32,t.next,t.act,t.xid,running T,st⟩ p b=some (p',none)) (h4:p'.wk=4) (h5:p'.rep.err≠0) (h6:p'.rep.rows=[]) (hc:ak.call=3):
  stepM (GE F ow l d st H W T nx rm fr se pk) i=some (GE F ow l d st H W T nx rm fr (se.set i { bt ak p' with wk:=.roll,why:=p'.rep.err,next:=t.last }) pk):=by
 rw[cZ (seat_i.trans hse),hwk];show(show_ (GE F ow l d st H W T nx rm fr se pk) i p >>= _)=_;rw[mg hse hn hh hb hs h1 h2 h3 hpp];show ended (GE F ow l d st H W T nx rm fr (se.set i (bt ak p')) pk) i=_;unfold ended;rw[seat_i,cA hi];show(bif decide (p'.wk=4) then(bif decide (p'.rep.err=0) then _ else(gd (!(decide (ak.call=2))&&!(decide (ak.call=5))&&decide (p'.rep.rows.length<=1000)) >>= λ_=>getD T (i:Int) >>= λt=>some (setSeat (GE F ow l d st H W T nx rm fr (se.set i (bt ak p')) pk) i { bt ak p' with wk:=.roll,why:=p'.rep.err,next:=t.last }))) else _)=_;rw[C9 h4,C8 h5,hc,h6,h3];show some (setSeat (GE F ow l d st H W T nx rm fr (se.set i (bt ak p')) pk) i { bt ak p' with wk:=.roll,why:=p'.rep.err,next:=t.last })=_;rw[aP,set_set]
def plF(p:Pn)(L:List Ent):Pn:=fin { p with left:=L } { rp0 with err:=180 }
theorem SB.b3(h:SB key a c r [old key v0 2,new key va] H [((ib a:Int),t3)] 4 sa (bt (putA key vb) (plD key vb 3 (leafL key 2))) e)(hv:Rt key v0)(hva:Rt key va)(k:Int):
  ∃e',stepM { e with pick:=k } (ib a)=some e'/\SB key a c r [old key v0 2,new key va] H [((ib a:Int),t3)] 4 sa { bt (putA key vb) (plF (plD key vb 3 (leafL key 2)) [⟨key,2,1⟩]) with wk:=.roll,why:=180,next:=0 } e':=by
 obtain⟨l,d,k0,k1,k2,o0,o1,o2,z,pk,rfl,hL,hD,h0,h1,h2⟩:=h.ex;have hvi:visible ⟨32,2,[],3,[3],pS k0 10⟩ ⟨1,2,key,v0⟩=some true:=by show(sees ⟨32,2,[],3,[3],pS k0 10⟩ 1 >>= λa=>bif a then(sees ⟨32,2,[],3,[3],pS k0 10⟩ 2).map (!·) else some false)=_;rw[nS h0 oM dC oM rfl Kf,Eo oM oM rfl];rfl
 have hne:newer ⟨32,2,[],3,[3],pS k0 10⟩ ⟨1,2,key,v0⟩=some true:=by
  have h3:unseen ⟨32,2,[],3,[3],pS k0 10⟩ 1=some false:=by show(sees ⟨32,2,[],3,[3],pS k0 10⟩ 1 >>= _)=_;rw[nS h0 oM dC oM rfl Kf];rfl
  have h4:unseen ⟨32,2,[],3,[3],pS k0 10⟩ 2=some true:=by show(sees ⟨32,2,[],3,[3],pS k0 10⟩ 2 >>= λa=>bif a then some false else(status ⟨32,2,[],3,[3],pS k0 10⟩ 2).map λs=>decide (s=2))=_;rw[Eo oM oM rfl,vB h0 oM dC,Kg];rfl
  show(unseen ⟨32,2,[],3,[3],pS k0 10⟩ 1 >>= λa=>bif a then some true else unseen ⟨32,2,[],3,[3],pS k0 10⟩ 2)=_;rw[h3,h4];rfl
 have ho:tuOk ⟨((1:Nat):Int),((2:Nat):Int),key,v0⟩=true:=hv.tu oM oM;have hnt:tuOk ⟨2,0,key,va⟩=true:=hva.tu oM oM;have hHL:=nz hv (x:=2) oM h2;have hsm:=(bL h2 (hHL.put hnt).1 (hHL.put hnt).2).2.2.2;have hpp:=gv (p:=plD key vb 3 (leafL key 2)) ho rfl (by show(0:Int)<=0;omega) rfl hsm rfl rfl (by show 0<=1000;omega) rfl hvi;have hpp2:pageP ⟨32,t3.next,t3.act,t3.xid,running [((ib a:Int),t3)],pS k0 10⟩ (plD key vb 3 (leafL key 2)) (pH k2 [old key v0 2,new key va])=some (plF (plD key vb 3 (leafL key 2)) [⟨key,2,1⟩],none):=by rw[IW];refine hpp.trans ?_;show((newer ⟨32,2,[],3,[3],pS k0 10⟩ ⟨1,2,key,v0⟩ >>= _).map _)=_;rw[hne];rfl
 refine⟨_,IR (se:=SE a sa (bt (putA key vb) (plD key vb 3 (leafL key 2)))) wP xS rfl (by show(0:Int)<=2/\(2:Int)<40;omega) GP rfl hsm Et (di h0 _).2 KZ hpp2 rfl (by show(180:Int)≠0;decide) rfl rfl,?_⟩;rw[pX];exact⟨l,d,k0,k1,k2,o0,o1,o2,z,k,rfl,hL,hD,h0,h1,h2⟩
theorem SB.b4{p:Pn}(h:SB key a c r vs [(key,(ib a:Int))] [((ib a:Int),t3)] 4 sa { bt (putA key vb) p with wk:=.roll,why:=180,next:=0 } e)(hr:700<=r)(k:Int):
  ∃e',stepM { e with pick:=k } (ib a)=some e'/\SB key a c (r - 700) vs [] [] 4 sa (fZ { rp0 with err:=180 }) e':=by
 obtain⟨l,d,k0,k1,k2,o0,o1,o2,z,pk,rfl,hL,hD,h0,h1,h2⟩:=h.ex;obtain⟨l',b1,b2,b3,b4⟩:=Gx (H:=[(key,(ib a:Int))]) (W:=[]) hL xS KZ rfl hr sI wP;refine⟨_,b4,?_⟩;have eH:([(key,(ib a:Int))].filter λx=>!(decide (x.2=(ib a:Int))))=[]:=sI;have eT:bQ [((ib a:Int),t3)] (ib a:Int)=[]:=by cases a<;>rfl
 rw[eH,eT,pX];exact⟨l',d,k0,k1,k2,o0,o1,o2,z,k,rfl,b1,hD,h0,h1,h2⟩
theorem SB.runs(h:SB key a c r vs H T nx seat0 sb e) (hs:(match sb.wk with
  | .none=>false
  | _=>true)=true):runnable e=[ib a]:=by
 obtain⟨l,d,k0,k1,k2,o0,o1,o2,z,pk,rfl,_⟩:=h.ex;have hg:∀i,goes (GE (F3 (pS k0 10) (pA k1 ((leafL key 2).map entB)) (pH k2 vs)) (O3 o0 o1 o2) l d (pS k0 10) H [] T nx (some z) 3 (SE a seat0 sb) pk) i=((match ((SE a seat0 sb).getD i seat0).wk with
  | .none=>false
  | _=>true)&&true):=λ_=>rfl
 unfold runnable;have e8:List.range 8=[0,1,2,3,4,5,6,7]:=rfl;rw[e8];cases a
 all_goals
  simp only[List.filter,hg];simp only[SE,ib,E3,E1,List.getD_cons_zero,List.getD_cons_succ];simp only[hs]
  rfl
end
def GoodW(Fin:Wg->Prop):Nat->Nat->Wg->Prop
 | 0,_,g=>2<=g.over/\Fin g
 | m+1,k,g=>(2<=g.over/\Fin g)\/(g.over<2/\∀p:Int,∃g',roundW g p (k:Int)=some g'/\GoodW Fin m (k+1) g')
def kg(g:Wg):O Wg:=do
 let g <- repW 1 g
 repW 2 g
section
variable{a w:Bool}{key v0 va vb:Bs}{c m:Nat}{r u nx won over:Int}{b0:UInt8}{vs:List Bs}{sa sb:Seat}{e e' e'':E}{k:Int}{H:List (Bs×Int)}{T:List (Int×Tx)}{tb:Tx}{g g':Wg}{rp:Rp}{Fin:Wg->Prop}
theorem eP{p k:Int}(h:runN g.e p k=some e')(h2:kg { g with e:=e' }=some g'):roundW g p k=some g':=by unfold roundW;rw[h];exact h2
theorem nN(h1:replyM g.e 1=none)(h2:replyM g.e 2=none):kg g=some g:=by
 have e1:repW 1 g=some g:=by unfold repW;rw[h1]
 unfold kg;rw[e1];show repW 2 g=some g;unfold repW;rw[h2]
theorem tI(a:Bool)(h1:replyM g.e (ib a)=none)(h2:repW (ia a) g=some g')(h3:replyM g'.e (ib a)=none):kg g=some g':=by
 unfold kg;cases a with
 | true=>show(repW (ia true) g >>= λg=>repW 2 g)=_;rw[h2];show repW 2 g'=_;unfold repW;rw[show replyM g'.e 2=none from h3]
 | false=>
  have e1:repW 1 g=some g:=by unfold repW;rw[show replyM g.e 1=none from h1]
  rw[e1];exact h2
theorem FY(a:Bool)(h1:replyM g.e (ia a)=none)(h2:repW (ib a) g=some g')(h3:replyM g'.e (ia a)=none):kg g=some g':=by
 have e1:ib a=ia (!a):=by cases a<;>rfl
 have e2:ia a=ib (!a):=by cases a<;>rfl
 rw[e2] at h1 h3;rw[e1] at h2;exact tI (!a) h1 h2 h3
theorem cz{i:Nat}(h:(seatAt e i).told=false):replyM e i=none:=by unfold replyM;rw[h];rfl
theorem jh{i:Nat}(h:seatAt e i=fZ rp):replyM e i=some (setSeat e i seat0,rp):=by unfold replyM;rw[h];rfl
theorem mc:(sB w key vb).told=false:=by cases w<;>rfl
theorem SA.j6(h:SA key vb a w c r b0 m vs u sa e):seatAt e (ia a)=sa:=by obtain⟨l,d,k0,k1,k2,o0,o1,o2,f,q,z,pk,rfl,_⟩:=h.ex;exact xR
theorem SA.j7(h:SA key vb a w c r b0 m vs u sa e):seatAt e (ib a)=sB w key vb:=by obtain⟨l,d,k0,k1,k2,o0,o1,o2,f,q,z,pk,rfl,_⟩:=h.ex;exact xS
theorem SA.o8(h:SA key vb a w c r b0 m vs u sa e)(s:Seat):SA key vb a w c r b0 m vs u s (setSeat e (ia a) s):=by obtain⟨l,d,k0,k1,k2,o0,o1,o2,f,q,z,pk,rfl,hh⟩:=h.ex;rw[aP,kH];exact⟨l,d,k0,k1,k2,o0,o1,o2,f,q,z,pk,rfl,hh⟩
theorem SB.j6(h:SB key a c r vs H T nx sa sb e):seatAt e (ia a)=sa:=by obtain⟨l,d,k0,k1,k2,o0,o1,o2,z,pk,rfl,_⟩:=h.ex;exact xR
theorem SB.j7(h:SB key a c r vs H T nx sa sb e):seatAt e (ib a)=sb:=by obtain⟨l,d,k0,k1,k2,o0,o1,o2,z,pk,rfl,_⟩:=h.ex;exact xS
theorem SB.o8(h:SB key a c r vs H T nx sa sb e)(s:Seat):SB key a c r vs H T nx s sb (setSeat e (ia a) s):=by obtain⟨l,d,k0,k1,k2,o0,o1,o2,z,pk,rfl,hh⟩:=h.ex;rw[aP,kH];exact⟨l,d,k0,k1,k2,o0,o1,o2,z,pk,rfl,hh⟩
theorem SB.AS(h:SB key a c r vs H T nx sa sb e)(s:Seat):SB key a c r vs H T nx sa s (setSeat e (ib a) s):=by obtain⟨l,d,k0,k1,k2,o0,o1,o2,z,pk,rfl,hh⟩:=h.ex;rw[aP,pX];exact⟨l,d,k0,k1,k2,o0,o1,o2,z,pk,rfl,hh⟩
theorem Lq(P:Nat->Prop)(h1:P (ia a))(h2:P (ib a)):P 1/\P 2:=by
 cases a
 ·exact⟨h2,h1⟩
 ·exact⟨h1,h2⟩
theorem SA.quiet(h:SA key vb a w c r b0 m vs u sa e)(hs:sa.told=false):kg ⟨e,won,over⟩=some ⟨e,won,over⟩:=by obtain⟨h1,h2⟩:=Lq (λi=>replyM e i=none) (cz (by rw[h.j6];exact hs)) (cz (by rw[h.j7];exact mc));exact nN h1 h2
theorem SB.quiet(h:SB key a c r vs H T nx sa sb e)(hs:sa.told=false)(hs2:sb.told=false):kg ⟨e,won,over⟩=some ⟨e,won,over⟩:=by obtain⟨h1,h2⟩:=Lq (λi=>replyM e i=none) (cz (by rw[h.j6];exact hs)) (cz (by rw[h.j7];exact hs2));exact nN h1 h2
theorem El{i:Nat}{p k:Int}(h:runnable e=[i]):runN e p k=stepM { e with pick:=k } i:=by
 have h0:nt (runnable e).length p=0:=by have:=(oT (E4 1) p).1;rw[h];show nt 1 p=0;omega
 unfold runN;rw[h0,h];rfl
theorem Em{p k:Int}(h:runnable e=[1,2]):runN e p k=stepM { e with pick:=k } (ia a)\/runN e p k=stepM { e with pick:=k } (ib a):=by
 have h2:=(oT (n:=2) oM p).1;have h0:nt (runnable e).length p=nt 2 p:=by rw[h];rfl
 unfold runN;rw[h0,h];rcases(oM:nt 2 p=0\/nt 2 p=1) with h|h
 ·rw[h];cases a
  ·exact .inr rfl
  ·exact .inl rfl
 ·rw[h];cases a
  ·exact .inl rfl
  ·exact .inr rfl
theorem uR{P:Bool->E->Prop}{R:Bool->Wg->Prop}{N:Nat}(ho:over<2)
  (hrun:∀w e,P w e->runnable e=bif w then[ia a] else[1,2])
  (hA:∀w e (k:Int),P w e->∃e' g',stepM { e with pick:=k } (ia a)=some e'/\kg ⟨e',won,over⟩=some g'/\R w g')
  (hB:∀e (k:Int),P false e->∃e',stepM { e with pick:=k } (ib a)=some e'/\kg ⟨e',won,over⟩=some ⟨e',won,over⟩/\P true e')
  (hR:∀w k g,R w g->GoodW Fin (bif w then N else N+1) k g):
  ∀w k e,P w e->GoodW Fin (bif w then N+1 else N+2) k ⟨e,won,over⟩:=by
 have ht:∀k e,P true e->GoodW Fin (N+1) k ⟨e,won,over⟩:=by intro k e h;refine .inr ⟨ho,λp=>?_⟩;obtain⟨e',g',a1,a2,a3⟩:=hA true e (k:Int) h;exact⟨g',eP ((El (hrun true e h)).trans a1) a2,hR true _ _ a3⟩
 intro w k e h;cases w with
 | true=>exact ht k e h
 | false=>
  refine .inr ⟨ho,λp=>?_⟩;rcases Em (hrun false e h) with hr|hr
  ·obtain⟨e',g',a1,a2,a3⟩:=hA false e (k:Int) h;exact⟨g',eP (hr.trans a1) a2,hR false _ _ a3⟩
  ·obtain⟨e',a1,a2,a3⟩:=hB e (k:Int) h;exact⟨_,eP (hr.trans a1) a2,ht _ _ a3⟩
theorem uN{N:Nat}{i:Nat}{k:Nat}(ho:over<2)(hrun:runnable e=[i])(h:∃e' g',stepM { e with pick:=(k:Int) } i=some e'/\kg ⟨e',won,over⟩=some g'/\GoodW Fin N (k+1) g'):GoodW Fin (N+1) k ⟨e,won,over⟩:=by obtain⟨e',g',a1,a2,a3⟩:=h;exact .inr ⟨ho,λp=>⟨g',eP ((El hrun).trans a1) a2,a3⟩⟩
theorem Ia(hv:Rt key v0)(hva:Rt key va)(hvb:Rt key vb)(hc:c<=50000)(hfin:∀e,SB key a c 1500 [old key v0 2,new key va] [] [] 4 seat0 seat0 e->Fin ⟨e,(ia a:Int),2⟩)(w:Bool)(k:Nat)(e:E)
  (h:SB key a c (1500+rB w) [old key v0 2,new key va] [] [((ib a:Int),tB w)] (nB w) seat0 (sB w key vb) e):GoodW Fin 4 k ⟨e,(ia a:Int),1⟩:=by
 have hw:(match (sB w key vb).wk with
  | .none=>false
  | _=>true)=true:=by cases w<;>rfl
 obtain⟨e1,s1,h1⟩:=h.b1 hvb hc oM (k:Int);refine uN oM (h.runs hw) ⟨e1,_,s1,h1.quiet rfl rfl,?_⟩;obtain⟨e2,s2,h2⟩:=h1.b2 hv.k ((k+1:Nat):Int);refine uN oM (h1.runs rfl) ⟨e2,_,s2,h2.quiet rfl rfl,?_⟩;obtain⟨e3,s3,h3⟩:=h2.b3 hv hva ((k+1+1:Nat):Int);refine uN oM (h2.runs rfl) ⟨e3,_,s3,h3.quiet rfl rfl,?_⟩;obtain⟨e4,s4,h4⟩:=h3.b4 oM ((k+1+1+1:Nat):Int);refine uN oM (h3.runs rfl) ⟨e4,⟨setSeat e4 (ib a) seat0,(ia a:Int),2⟩,s4,?_,?_⟩
 ·refine FY a (cz (by rw[h4.j6];rfl)) ?_ (cz (by rw[(h4.AS seat0).j6];rfl));unfold repW;rw[show replyM (⟨e4,(ia a:Int),1⟩:Wg).e (ib a)=_ from jh h4.j7]
  rfl
 ·exact⟨Nv _,hfin _ (by have:=h4.AS seat0;simpa using this)⟩
end
section
variable{a w:Bool}{key v0 va vb:Bs}{c m:Nat}{r u nx won over:Int}{b0:UInt8}{vs:List Bs}{sa sb:Seat}{e e' e'':E}{k:Int}{H:List (Bs×Int)}{T:List (Int×Tx)}{tb:Tx}{g g':Wg}{rp:Rp}{Fin:Wg->Prop}
theorem GoodW.mono{n:Nat}:∀{n' k:Nat} {g:Wg},GoodW Fin n k g->n<=n'->GoodW Fin n' k g:=by
 induction n with
 | zero=>
  intro n' k g h _;cases n' with
  | zero=>exact h
  | succ n'=>exact .inl h
 | succ n ih=>
  intro n' k g h hn;obtain⟨n',rfl⟩:∃j,n'=j+1:=⟨n' - 1,oM⟩;rcases h with h|⟨h1,h2⟩
  ·exact .inl h
  ·refine .inr ⟨h1,λp=>?_⟩;obtain⟨g',a,b⟩:=h2 p;exact⟨g',a,ih b oM⟩
theorem Ke(h:SA key vb a w c r b0 m vs u seat0 e)(ak:Ak):∃e',ask e (ia a) ak=some e'/\SA key vb a w c r b0 m vs u (sAsk ak) e':=by
 refine⟨_,?_,h.o8 (sAsk ak)⟩;unfold ask;rw[h.j6]
 rfl
theorem Kv:(ia a:Int)≠0:=by cases a<;>decide
abbrev vs2(key v0 va:Bs):List Bs:=[old key v0 2,new key va]
theorem HZ(hv:Rt key v0)(hva:Rt key va)(hvb:Rt key vb)(hc:c<=40000)(hfin:∀e,SB key a c 1500 (vs2 key v0 va) [] [] 4 seat0 seat0 e->Fin ⟨e,(ia a:Int),2⟩):
  ∀w k e,(∃nxt en,SA key vb a w c 2900 10 2 (vs2 key v0 va) 2 (En (aw 6) nxt en) e)->GoodW Fin (bif w then 4+1 else 4+2) k ⟨e,(ia a:Int),0⟩:=by
 refine uR (a:=a) (R:=λw g=>∃e',g=⟨e',(ia a:Int),1⟩/\SB key a c (1500+rB w) (vs2 key v0 va) [] [((ib a:Int),tB w)] (nB w) seat0 (sB w key vb) e') oM ?_ ?_ ?_ ?_
 ·rintro w e ⟨nxt,en,h⟩;exact h.runs rfl
 ·rintro w e k ⟨nxt,en,h⟩;obtain⟨e',s,h'⟩:=h.a9 oM k;refine⟨e',⟨setSeat e' (ia a) seat0,(ia a:Int),1⟩,s,?_,_,rfl,by have:=h'.o8 seat0;simpa using this⟩;refine tI a (cz (by rw[h'.j7];exact mc)) ?_ (cz (by rw[(h'.o8 seat0).j7];exact mc));unfold repW;rw[show replyM (⟨e',(ia a:Int),0⟩:Wg).e (ia a)=_ from jh h'.j6];show(bif decide ((ia a:Int)=(ia a:Int)) then _ else _)=_;rw[C9 rfl];rfl
 ·rintro e k ⟨nxt,en,h⟩;obtain⟨e',s,h'⟩:=h.other hvb oM oM k;exact⟨e',s,h'.quiet rfl,nxt,en,h'⟩
 ·rintro w k g ⟨e',rfl,h⟩;exact(Ia hv hva hvb oM hfin w k e' h).mono (by cases w<;>decide)
theorem HY(hv:Rt key v0)(hva:Rt key va)(hvb:Rt key vb)(hc:c<=30000)(hfin:∀e,SB key a (c+1008) 1500 (vs2 key v0 va) [] [] 4 seat0 seat0 e->Fin ⟨e,(ia a:Int),2⟩):
  ∀w k e,SA key vb a w c 3600 2 2 (vs2 key v0 va) 2 (sAsk (aw 6)) e->GoodW Fin (bif w then 5+1 else 5+2) k ⟨e,(ia a:Int),0⟩:=by
 refine uR (R:=λw g=>∃e',g=⟨e',(ia a:Int),0⟩/\∃nxt en,SA key vb a w (c+1008) 2900 10 2 (vs2 key v0 va) 2 (En (aw 6) nxt en) e') oM (λw e h=>h.runs rfl) ?_ ?_ ?_
 ·intro w e k h;obtain⟨e',nxt,en,s,h'⟩:=h.a8 oM oM k;exact⟨e',_,s,h'.quiet rfl,e',rfl,nxt,en,h'⟩
 ·intro e k h;obtain⟨e',s,h'⟩:=h.other hvb oM oM k;exact⟨e',s,h'.quiet rfl,h'⟩
 ·rintro w k g ⟨e',rfl,h⟩;exact(HZ hv hva hvb oM hfin w k e' h).mono (by cases w<;>decide)
theorem HX(hv:Rt key v0)(hva:Rt key va)(hvb:Rt key vb)(hc:c<=25000)(hfin:∀e,SB key a (c+1008+1008) 1500 (vs2 key v0 va) [] [] 4 seat0 seat0 e->Fin ⟨e,(ia a:Int),2⟩):
  ∀w k e,SA key vb a w c 3600 2 1 (vs2 key v0 va) 2 (bt (putA key va) (plI (see (plW (plT key va 2) 2 key va) 2 302) key 1)) e->GoodW Fin (bif w then 6+1 else 6+2) k ⟨e,0,0⟩:=by
 refine uR (R:=λw g=>∃e',g=⟨e',(ia a:Int),0⟩/\SA key vb a w (c+1008) 3600 2 2 (vs2 key v0 va) 2 (sAsk (aw 6)) e') oM (λw e h=>h.runs rfl) ?_ ?_ ?_
 ·intro w e k h;obtain⟨e',s,h'⟩:=h.a6 hv.k rfl oM oM k;obtain⟨e2,s2,h2⟩:=Ke (h'.o8 seat0) (aw 6);refine⟨e',⟨e2,(ia a:Int),0⟩,s,?_,e2,rfl,h2⟩;refine tI a (cz (by rw[h'.j7];exact mc)) ?_ (cz (by rw[h2.j7];exact mc));unfold repW;rw[show replyM (⟨e',0,0⟩:Wg).e (ia a)=_ from jh h'.j6];show(bif decide ((0:Int)=(ia a:Int)) then _ else(ask (setSeat e' (ia a) seat0) (ia a) (aw 6) >>= λe=>some (⟨e,(ia a:Int),0⟩:Wg)))=_;rw[C8 (λh=>Kv h.symm),s2];rfl
 ·intro e k h;obtain⟨e',s,h'⟩:=h.other hvb oM oM k;exact⟨e',s,h'.quiet rfl,h'⟩
 ·rintro w k g ⟨e',rfl,h⟩;exact(HY hv hva hvb oM hfin w k e' h).mono (by cases w<;>decide)
theorem HW(hv:Rt key v0)(hva:Rt key va)(hvb:Rt key vb)(hc:c<=20000)(hfin:∀e,SB key a (c+1008+1008+1008) 1500 (vs2 key v0 va) [] [] 4 seat0 seat0 e->Fin ⟨e,(ia a:Int),2⟩):
  ∀w k e,SA key vb a w c 2900 2 1 [old key v0 2] 1 (bt (putA key va) (plW (plT key va 2) 2 key va)) e->GoodW Fin (bif w then 7+1 else 7+2) k ⟨e,0,0⟩:=by
 refine uR (R:=λw g=>∃e',g=⟨e',0,0⟩/\SA key vb a w (c+1008) 3600 2 1 (vs2 key v0 va) 2 (bt (putA key va) (plI (see (plW (plT key va 2) 2 key va) 2 302) key 1)) e') oM (λw e h=>h.runs rfl) ?_ ?_ ?_
 ·intro w e k h;obtain⟨e',s,h'⟩:=h.a5 hv hva oM oM k;exact⟨e',_,s,h'.quiet rfl,e',rfl,h'⟩
 ·intro e k h;obtain⟨e',s,h'⟩:=h.other hvb oM oM k;exact⟨e',s,h'.quiet rfl,h'⟩
 ·rintro w k g ⟨e',rfl,h⟩;exact(HX hv hva hvb oM hfin w k e' h).mono (by cases w<;>decide)
theorem HV(hv:Rt key v0)(hva:Rt key va)(hvb:Rt key vb)(hc:c<=15000)(hfin:∀e,SB key a (c+1008+1008+1008+1008) 1500 (vs2 key v0 va) [] [] 4 seat0 seat0 e->Fin ⟨e,(ia a:Int),2⟩):
  ∀w k e,SA key vb a w c 2200 2 1 [old key v0 0] 0 (bt (putA key va) (plT key va 2)) e->GoodW Fin (bif w then 8+1 else 8+2) k ⟨e,0,0⟩:=by
 refine uR (R:=λw g=>∃e',g=⟨e',0,0⟩/\SA key vb a w (c+1008) 2900 2 1 [old key v0 2] 1 (bt (putA key va) (plW (plT key va 2) 2 key va)) e') oM (λw e h=>h.runs rfl) ?_ ?_ ?_
 ·intro w e k h;obtain⟨e',s,h'⟩:=h.a4 hv hva oM oM k;exact⟨e',_,s,h'.quiet rfl,e',rfl,h'⟩
 ·intro e k h;obtain⟨e',s,h'⟩:=h.other hvb oM oM k;exact⟨e',s,h'.quiet rfl,h'⟩
 ·rintro w k g ⟨e',rfl,h⟩;exact(HW hv hva hvb oM hfin w k e' h).mono (by cases w<;>decide)
theorem HU(hv:Rt key v0)(hva:Rt key va)(hvb:Rt key vb)(hc:c<=15000)(hfin:∀e,SB key a (c+1008+1008+1008+1008) 1500 (vs2 key v0 va) [] [] 4 seat0 seat0 e->Fin ⟨e,(ia a:Int),2⟩):
  ∀w k e,SA key vb a w c 2200 2 1 [old key v0 0] 0 (bt (putA key va) (plD key va 2 (leafL key 1))) e->GoodW Fin (bif w then 9+1 else 9+2) k ⟨e,0,0⟩:=by
 refine uR (R:=λw g=>∃e',g=⟨e',0,0⟩/\SA key vb a w c 2200 2 1 [old key v0 0] 0 (bt (putA key va) (plT key va 2)) e') oM (λw e h=>h.runs rfl) ?_ ?_ ?_
 ·intro w e k h;obtain⟨e',s,h'⟩:=h.a3 hv k;exact⟨e',_,s,h'.quiet rfl,e',rfl,h'⟩
 ·intro e k h;obtain⟨e',s,h'⟩:=h.other hvb oM oM k;exact⟨e',s,h'.quiet rfl,h'⟩
 ·rintro w k g ⟨e',rfl,h⟩;exact(HV hv hva hvb hc hfin w k e' h).mono (by cases w<;>decide)
theorem HT(hv:Rt key v0)(hva:Rt key va)(hvb:Rt key vb)(hc:c<=15000)(hfin:∀e,SB key a (c+1008+1008+1008+1008) 1500 (vs2 key v0 va) [] [] 4 seat0 seat0 e->Fin ⟨e,(ia a:Int),2⟩):
  ∀w k e,SA key vb a w c 2200 2 1 [old key v0 0] 0 (bt (putA key va) (plL key va 2)) e->GoodW Fin (bif w then 10+1 else 10+2) k ⟨e,0,0⟩:=by
 refine uR (R:=λw g=>∃e',g=⟨e',0,0⟩/\SA key vb a w c 2200 2 1 [old key v0 0] 0 (bt (putA key va) (plD key va 2 (leafL key 1))) e') oM (λw e h=>h.runs rfl) ?_ ?_ ?_
 ·intro w e k h;obtain⟨e',s,h'⟩:=h.a2 hv.k k;exact⟨e',_,s,h'.quiet rfl,e',rfl,h'⟩
 ·intro e k h;obtain⟨e',s,h'⟩:=h.other hvb oM oM k;exact⟨e',s,h'.quiet rfl,h'⟩
 ·rintro w k g ⟨e',rfl,h⟩;exact(HU hv hva hvb hc hfin w k e' h).mono (by cases w<;>decide)
structure SI (key v0 v1 v2 : Bs) (c : Nat) (e : E) : Prop where
 ex : ∃ (l : Lg) (d : Dk) (k0 k1 k2 o0 o1 o2 z pk : Int), e = GE (F3 (pS k0 2) (pA k1 ((leafL key 1).map entB)) (pH k2 [old key v0 0])) (O3 o0 o1 o2) l d (pS k0 2) [] [] [(1, tB false), (2, tB false)] 2 (some z) 3 (SE true (sAsk (putA key v1)) (sAsk (putA key v2))) pk ∧
  LO l c 1500 ∧ DO d ∧ (0 ≤ k0 ∧ k0 < l.tail) ∧ (0 ≤ k1 ∧ k1 < l.tail) ∧ (0 ≤ k2 ∧ k2 < l.tail) ∧ 120 ≤ z
def vA(a:Bool)(v1 v2:Bs):Bs:=bif a then v1 else v2
theorem SI.step{v1 v2:Bs}(h:SI key v0 v1 v2 c e)(a:Bool)(h1:Rt key v1)(h2:Rt key v2)(hc:c<=15000)(k:Int):
  ∃e',stepM { e with pick:=k } (ia a)=some e'/\SA key (vA (!a) v1 v2) a false c 2200 2 1 [old key v0 0] 0 (bt (putA key (vA a v1 v2)) (plL key (vA a v1 v2) 2)) e':=by
 obtain⟨l,d,k0,k1,k2,o0,o1,o2,z,pk,rfl,hL,hD,p0,p1,p2,hz⟩:=h.ex;have hva:Rt key (vA a v1 v2):=by cases a<;>assumption
 have eS:SE true (sAsk (putA key v1)) (sAsk (putA key v2))=SE a (sAsk (putA key (vA a v1 v2))) (sAsk (putA key (vA (!a) v1 v2))):=by cases a<;>rfl
 have eT:[((1:Int),tB false),(2,tB false)]=TL a (tB false) (tB false):=by cases a<;>rfl
 rw[eS,eT];obtain⟨l',b1,b2,b3,b4⟩:=kD (T:=TL a (tB false) (tB false)) (nx:=2) hL oM oM oO xR hva.k hva.v DG rfl oM (by cases a<;>decide) (by cases a<;>rfl);rw[kH,xT] at b4;have b5:=tS (F:=F3 (pS k0 2) (pA k1 ((leafL key 1).map entB)) (pH k2 [old key v0 0])) (ow:=O3 o0 o1 o2) (l:=l') (d:=d) (st:=pS k0 2) (H:=[]) (W:=[]) (T:=TL a { tB false with xid:=2 } (tB false)) (nx:=3) (rm:=some z) (fr:=3) (se:=SE a (bt (putA key (vA a v1 v2)) (jD (putA key (vA a v1 v2)) 2)) (sAsk (putA key (vA (!a) v1 v2)))) (pk:=k) oO xR rfl rfl;rw[kH] at b5;refine⟨_,b4.trans b5,?_⟩;exact⟨l',d,k0,k1,k2,o0,o1,o2,0,0,z,k,rfl,b1,hD,oM,oM,oM,oM,λh=>absurd rfl h,λ_=>hz⟩
theorem SI.runs{v1 v2:Bs}(h:SI key v0 v1 v2 c e):runnable e=[1,2]:=by
 obtain⟨l,d,k0,k1,k2,o0,o1,o2,z,pk,rfl,_⟩:=h.ex
 rfl
theorem SI.good{v1 v2:Bs}(h:SI key v0 v1 v2 c e)(h0:Rt key v0)(h1:Rt key v1)(h2:Rt key v2)(hc:c<=15000)
  (hfin:∀a e,SB key a (c+1008+1008+1008+1008) 1500 (vs2 key v0 (vA a v1 v2)) [] [] 4 seat0 seat0 e->Fin ⟨e,(ia a:Int),2⟩) (k:Nat):GoodW Fin 13 k ⟨e,0,0⟩:=by
 have go:∀a:Bool,∃e' g',stepM { e with pick:=(k:Int) } (ia a)=some e'/\kg ⟨e',0,0⟩=some g'/\GoodW Fin 12 (k+1) g':=by
  intro a;have hva:Rt key (vA a v1 v2):=by cases a<;>assumption
  have hvb:Rt key (vA (!a) v1 v2):=by cases a<;>assumption
  obtain⟨e',s,h'⟩:=h.step a h1 h2 hc (k:Int);exact⟨e',_,s,h'.quiet rfl,HT h0 hva hvb hc (hfin a) false _ _ h'⟩
 refine .inr ⟨by show(0:Int)<2;omega,λp=>?_⟩;rcases Em h.runs with hr|hr
 ·obtain⟨e',g',a1,a2,a3⟩:=go true;exact⟨g',eP (hr.trans a1) a2,a3⟩
 ·obtain⟨e',g',a1,a2,a3⟩:=go false;exact⟨g',eP (hr.trans a1) a2,a3⟩
end
section
variable{F:List Pf}{ow:List (Int×Int)}{l:Lg}{d:Dk}{st:Pg}{H:List (Bs×Int)}{W:List (Int×Bs)}{T:List (Int×Tx)}{nx:Int}{rm rm':O Int}{fr:Int}{se:List Seat}{pk:Int}{c i j:Nat}{rs who free n k:Int}{t:Tx}{b:Pg}{ak:Ak}{p p':Pn}{v:Vw}{s:Seat}{e e':E}{f:Nat}{rp:Rp}
theorem dA(h1:(seatAt e i).told=false)(h2:runnable e=[i])(h3:stepM { e with pick:=k } i=some e'):aloneGo i (f+1) k e=aloneGo i f (k+1) e':=by
 rw[aloneGo,cz h1];show(runM e k >>= λe=>aloneGo i f (k+1) e)=_;have:runM e k=some e':=by unfold runM;rw[h2];exact h3
 rw[this];rfl
theorem ey(h:seatAt e i=fZ rp):aloneGo i (f+1) k e=some (setSeat e i seat0,rp):=by rw[aloneGo,jh h]
theorem xu(hi:i<se.length)(hse:se.getD i seat0=bt ak p)(hwk:p.wk=3)(hn:0<=p.wpg/\p.wpg<40)(hh:F.findIdx? (λf=>decide (f.num=p.wpg))=some j)(hb:(F.getD j pf0).pg=b)(hs:smP b=true)
  (h1:fewT T=true) (h2:smP st=true) (h3:getD T (i:Int)=some t) (hpp:pageP ⟨32,t.next,t.act,t.xid,running T,st⟩ p b=some (p',none)) (h4:p'.wk=4) (h5:p'.rep.err=0) (h6:p'.rep.rows.length<=1000):
  stepM (GE F ow l d st H W T nx rm fr se pk) i=some (GE F ow l d st H W T nx rm fr (se.set i (fZ p'.rep)) pk):=by
 rw[cZ (seat_i.trans hse),hwk];show(show_ (GE F ow l d st H W T nx rm fr se pk) i p >>= _)=_;rw[mg hse hn hh hb hs h1 h2 h3 hpp];refine(qx (by rw[seat_i,cA hi];rfl) h4 h5 h6).trans ?_;show some (setSeat (GE F ow l d st H W T nx rm fr (se.set i (bt ak p')) pk) i (fZ p'.rep))=_;rw[aP,set_set]
theorem ot(h:ask e i ak=some e'):alone e i ak=aloneGo i 40 0 e':=by unfold alone;rw[h];rfl
def S1(i:Nat)(s:Seat):List Seat:=(List.replicate 8 seat0).set i s
theorem jK:(S1 i s).length=8:=by unfold S1;rw[K0,G6]
theorem fK(hi:i<8):(S1 i s).getD i seat0=s:=cA (by simpa using hi) s
theorem og{s':Seat}:(S1 i s).set i s'=S1 i s':=by unfold S1;rw[Nc]
theorem Ln(hi:i<8):S1 i seat0=List.replicate 8 seat0:=by
 unfold S1;apply MW;intro m;rw[Ny];by_cases h:i=m
 ·subst h;rw[I9 rfl,I9 (by simpa using hi),Ng,I9 hi]
 ·rw[I8 h]
theorem mH(hi:i<8) (hs:(match s.wk with
  | .none=>false
  | _=>true)=true):runnable (GE F ow l d st H [] T nx rm fr (S1 i s) pk)=[i]:=by
 have hg:∀m,goes (GE F ow l d st H [] T nx rm fr (S1 i s) pk) m=((match ((S1 i s).getD m seat0).wk with
  | .none=>false
  | _=>true)&&true):=λ_=>rfl
 unfold runnable;have e8:List.range 8=[0,1,2,3,4,5,6,7]:=rfl;rw[e8];simp only[List.filter,hg];rcases(oM:i=0\/i=1\/i=2\/i=3\/i=4\/i=5\/i=6\/i=7) with rfl|rfl|rfl|rfl|rfl|rfl|rfl|rfl
 all_goals
  simp only[S1,List.replicate,List.set,List.getD_cons_zero,List.getD_cons_succ];simp only[hs]
  rfl
theorem vR(hi:i<8):ask (GE F ow l d st H W T nx rm fr (S1 i seat0) pk) i ak=some (GE F ow l d st H W T nx rm fr (S1 i (sAsk ak)) pk):=by unfold ask;rw[seat_i,fK hi];show some (setSeat _ i (sAsk ak))=_;rw[aP,og]
theorem eY(hi:i<8)(ht:getD T (i:Int)=none)(hf:fewT T=true):∃pk',alone (GE F ow l d st H [] T nx rm fr (S1 i seat0) pk) i (aw 1)=some (GE F ow l d st H [] (bJ T (i:Int) ⟨nx,running T,0,0,0,0⟩) nx rm fr (S1 i seat0) pk',rp0):=by
 refine⟨0,?_⟩;unfold alone;rw[vR hi];show aloneGo i 40 0 (GE F ow l d st H [] T nx rm fr (S1 i (sAsk (aw 1))) pk)=_;have hs:stepM (GE F ow l d st H [] T nx rm fr (S1 i (sAsk (aw 1))) 0) i=some (GE F ow l d st H [] (bJ T (i:Int) ⟨nx,running T,0,0,0,0⟩) nx rm fr (S1 i (fZ rp0)) 0):=by unfold stepM;rw[seat_i,fK hi];show begin (GE F ow l d st H [] T nx rm fr (S1 i (sAsk (aw 1))) 0) i=_;unfold begin;rw[seat_i,fK hi];show(gd ((getD T (i:Int)).isNone&&fewT T) >>= λ_=>some (setSeat (GE F ow l d st H [] (bJ T (i:Int) ⟨nx,running T,0,0,0,0⟩) nx rm fr (S1 i (sAsk (aw 1))) 0) i (fZ rp0)))=_;rw[ht,hf,aP,og];rfl
 rw[dA (by rw[seat_i,fK hi];rfl) (mH hi rfl) hs,ey (by rw[seat_i,fK hi]),aP,og]
theorem xW(hi:i<8)(hL:LO l c rs)(hr:0<=rs)(ht:getD T (i:Int)=some t)(hx:t.xid=0)(hl:t.last=0):∃l' H' T' pk',LO l' c rs/\alone (GE F ow l d st H [] T nx rm fr (S1 i seat0) pk) i (aw 6)=some (GE F ow l' d st H' [] T' nx rm fr (S1 i seat0) pk',rp0):=by
 obtain⟨l2,a1,a2,a3,a4⟩:=sG (W:=[]) (n:=0) hL ht oM oM sI;refine⟨l2,H.filter λx=>!(decide (x.2=(i:Int))),bQ T (i:Int),0,by simpa using a1,?_⟩;unfold alone;rw[vR hi];show aloneGo i 40 0 (GE F ow l d st H [] T nx rm fr (S1 i (sAsk (aw 6))) pk)=_;have hs:stepM (GE F ow l d st H [] T nx rm fr (S1 i (sAsk (aw 6))) 0) i=some (GE F ow l2 d st (H.filter λx=>!(decide (x.2=(i:Int)))) [] (bQ T (i:Int)) nx rm fr (S1 i (fZ rp0)) 0):=by
  unfold stepM;rw[seat_i,fK hi];show begin (GE F ow l d st H [] T nx rm fr (S1 i (sAsk (aw 6))) 0) i=_;unfold begin;rw[seat_i,fK hi];show(getD T (i:Int) >>= _)=_;rw[ht];show(bif decide (t.last=0) then(gd (decide (t.xid=0)) >>= λ_=>close (GE F ow l d st H [] T nx rm fr (S1 i (sAsk (aw 6))) 0) i 0 >>= λe=>some (say e i rp0)) else _)=_;rw[C9 hl,C9 hx,a4];show some (setSeat _ i (fZ rp0))=_;rw[aP,og]
  rfl
 rw[dA (by rw[seat_i,fK hi];rfl) (mH hi rfl) hs,ey (by rw[seat_i,fK hi]),aP,og]
end
section
variable{a:Bool}{key v0 va:Bs}{c:Nat}{e:E}
def akS:Ak:={ ak0 with call:=5,n:=16 }
def qL:Pn:=look (pn0 akS 0)
def qD(L:List Ent):Pn:=see { qL with seen:=1,left:=L } 2 408
def qE(key va:Bs):Pn:=fin { qL with seen:=1,left:=[],wk:=3,wpg:=2,stg:=408,rows:=[(key,va)] } { rp0 with rows:=[(key,va)] }
theorem FQ{v:Vw}{k:Int}(hk:keyOk key=true)(h0:0<=k):pageP v qL (pA k ((leafL key 2).map entB))=some (qD (leafL key 2),none):=by
 rw[jB (bU hk h0 oM).2.2.2 (.inr rfl)];show(descend qL _).map _=_;have:descend qL (pA k ((leafL key 2).map entB))=some (qD (leafL key 2)):=by
  unfold descend;show(gd (decide (([]:Bs).length<=24)&&decide ((0:Int)<=0/\(0:Int)<4000)) >>= λ_=>M.opened (pA k ((leafL key 2).map entB)) >>= λ_=>hits (pA k ((leafL key 2).map entB)) [] [] >>= λh=>next { qL with seen:=0+1,left:=h })=_;rw[dM hk h0 oM,qJ hk h0 oM (by rw[Co (Ii hk)];decide) rfl]
  rfl
 rw[this];rfl
def T3:List (Int×Tx):=[((3:Int),⟨4,[],0,0,0,0⟩)]
theorem Hq:getD T3 ((3:Nat):Int)=some ⟨4,[],0,0,0,0⟩:=rfl
theorem Ka:fewT T3=true:=rfl
theorem Lp:running T3=[]:=rfl
abbrev vw3(k0:Int):Vw:=⟨32,4,[],0,[],pS k0 10⟩
section
variable{l:Lg}{d:Dk}{k0 k1 k2 o0 o1 o2 z pk:Int}
theorem Dv(hv:Rt key v0)(hva:Rt key va)(h2:0<=k2):smP (pH k2 (vs2 key v0 va))=true:=by have hn:tuOk ⟨2,0,key,va⟩=true:=hva.tu oM oM;have hHL:=nz hv (x:=2) oM h2;exact(bL h2 (hHL.put hn).1 (hHL.put hn).2).2.2.2
theorem KU(hv:Rt key v0)(hva:Rt key va)(h0:0<=k0)(h2:0<=k2):pageP (vw3 k0) (qD (leafL key 2)) (pH k2 (vs2 key v0 va))=some (qD [⟨key,2,1⟩],none):=by
 have ho:tuOk ⟨((1:Nat):Int),((2:Nat):Int),key,v0⟩=true:=hv.tu oM oM;have s1:sees (vw3 k0) 1=some true:=nS h0 oM dC oM rfl Kf;have s2:sees (vw3 k0) 2=some true:=nS h0 oM dC oM rfl Kg;have v1:visible (vw3 k0) ⟨1,2,key,v0⟩=some false:=by show(sees (vw3 k0) 1 >>= λa=>bif a then(sees (vw3 k0) 2).map (!·) else some false)=_;rw[s1,s2];rfl
 exact gv (L:=[⟨key,2,1⟩]) ho rfl (by show(0:Int)<=0;omega) rfl (Dv hv hva h2) rfl rfl (by show 0<=1000;omega) rfl v1
theorem KW(hv:Rt key v0)(hva:Rt key va)(h0:0<=k0)(h2:0<=k2):pageP (vw3 k0) (qD [⟨key,2,1⟩]) (pH k2 (vs2 key v0 va))=some (qE key va,none):=by
 have hn:tuOk ⟨((2:Nat):Int),((0:Nat):Int),key,va⟩=true:=hva.tu oM oM;have s2:sees (vw3 k0) 2=some true:=nS h0 oM dC oM rfl Kg;have v2:visible (vw3 k0) ⟨2,0,key,va⟩=some true:=by show(sees (vw3 k0) 2 >>= _)=_;rw[s2];rfl
 exact gv (L:=[]) hn rfl (by show(0:Int)<=1;omega) rfl (Dv hv hva h2) rfl rfl (by show 0<=1000;omega) rfl v2
theorem IM:stepM (GE (F3 (pS k0 10) (pA k1 ((leafL key 2).map entB)) (pH k2 (vs2 key v0 va))) (O3 o0 o1 o2) l d (pS k0 10) [] [] T3 4 (some z) 3 (S1 3 (sAsk akS)) pk) 3=stepM (GE (F3 (pS k0 10) (pA k1 ((leafL key 2).map entB)) (pH k2 (vs2 key v0 va))) (O3 o0 o1 o2) l d (pS k0 10) [] [] T3 4 (some z) 3 (S1 3 (bt akS qL)) pk) 3:=by
 conv=>lhs;unfold stepM
 rw[seat_i,fK dC];show begin (GE (F3 (pS k0 10) (pA k1 ((leafL key 2).map entB)) (pH k2 (vs2 key v0 va))) (O3 o0 o1 o2) l d (pS k0 10) [] [] T3 4 (some z) 3 (S1 3 (sAsk akS)) pk) 3=_;unfold begin;rw[seat_i,fK dC];show(getD T3 ((3:Nat):Int) >>= _)=_;rw[Hq];show(mkP akS 0 >>= λp=>follow (setSeat (GE (F3 (pS k0 10) (pA k1 ((leafL key 2).map entB)) (pH k2 (vs2 key v0 va))) (O3 o0 o1 o2) l d (pS k0 10) [] [] T3 4 (some z) 3 (S1 3 (sAsk akS)) pk) 3 { (S1 3 (sAsk akS)).getD 3 seat0 with plan:=some p,wk:=.follow }) 3)=_;rw[show mkP akS 0=some qL from rfl,fK dC];show follow (setSeat (GE (F3 (pS k0 10) (pA k1 ((leafL key 2).map entB)) (pH k2 (vs2 key v0 va))) (O3 o0 o1 o2) l d (pS k0 10) [] [] T3 4 (some z) 3 (S1 3 (sAsk akS)) pk) 3 (bt akS qL)) 3=_;rw[aP,og]
 conv=>rhs;unfold stepM
 rw[seat_i,fK dC]
 rfl
theorem Gc(hv:Rt key v0)(h0:0<=k0)(h1:0<=k1):stepM (GE (F3 (pS k0 10) (pA k1 ((leafL key 2).map entB)) (pH k2 (vs2 key v0 va))) (O3 o0 o1 o2) l d (pS k0 10) [] [] T3 4 (some z) 3 (S1 3 (sAsk akS)) pk) 3=some (GE (F3 (pS k0 10) (pA k1 ((leafL key 2).map entB)) (pH k2 (vs2 key v0 va))) (O3 o0 o1 o2) l d (pS k0 10) [] [] T3 4 (some z) 3 (S1 3 (bt akS (qD (leafL key 2)))) pk):=by rw[IM];have:=mj (F:=F3 (pS k0 10) (pA k1 ((leafL key 2).map entB)) (pH k2 (vs2 key v0 va))) (ow:=O3 o0 o1 o2) (l:=l) (d:=d) (st:=pS k0 10) (H:=[]) (W:=[]) (nx:=4) (rm:=some z) (fr:=3) (se:=S1 3 (bt akS qL)) (pk:=pk) (by rw[jK];decide) (fK dC) rfl (by show(0:Int)<=1/\(1:Int)<40;omega) Jm rfl (bU hv.k h1 oM).2.2.2 Ka (di h0 _).2 Hq (FQ hv.k h1) (by show(3:Int)≠4;decide);rw[og] at this;exact this
theorem Gf(hv:Rt key v0)(hva:Rt key va)(h0:0<=k0)(h2:0<=k2):stepM (GE (F3 (pS k0 10) (pA k1 ((leafL key 2).map entB)) (pH k2 (vs2 key v0 va))) (O3 o0 o1 o2) l d (pS k0 10) [] [] T3 4 (some z) 3 (S1 3 (bt akS (qD (leafL key 2)))) pk) 3=some (GE (F3 (pS k0 10) (pA k1 ((leafL key 2).map entB)) (pH k2 (vs2 key v0 va))) (O3 o0 o1 o2) l d (pS k0 10) [] [] T3 4 (some z) 3 (S1 3 (bt akS (qD [⟨key,2,1⟩]))) pk):=by have:=mj (F:=F3 (pS k0 10) (pA k1 ((leafL key 2).map entB)) (pH k2 (vs2 key v0 va))) (ow:=O3 o0 o1 o2) (l:=l) (d:=d) (H:=[]) (W:=[]) (nx:=4) (rm:=some z) (fr:=3) (se:=S1 3 (bt akS (qD (leafL key 2)))) (pk:=pk) (by rw[jK];decide) (fK dC) rfl (by show(0:Int)<=2/\(2:Int)<40;omega) GP rfl (Dv hv hva h2) Ka (di h0 _).2 Hq (by rw[Lp];exact KU hv hva h0 h2) (by show(3:Int)≠4;decide);rw[og] at this;exact this
theorem Gg(hv:Rt key v0)(hva:Rt key va)(h0:0<=k0)(h2:0<=k2):stepM (GE (F3 (pS k0 10) (pA k1 ((leafL key 2).map entB)) (pH k2 (vs2 key v0 va))) (O3 o0 o1 o2) l d (pS k0 10) [] [] T3 4 (some z) 3 (S1 3 (bt akS (qD [⟨key,2,1⟩]))) pk) 3=some (GE (F3 (pS k0 10) (pA k1 ((leafL key 2).map entB)) (pH k2 (vs2 key v0 va))) (O3 o0 o1 o2) l d (pS k0 10) [] [] T3 4 (some z) 3 (S1 3 (fZ { rp0 with rows:=[(key,va)] })) pk):=by have:=xu (F:=F3 (pS k0 10) (pA k1 ((leafL key 2).map entB)) (pH k2 (vs2 key v0 va))) (ow:=O3 o0 o1 o2) (l:=l) (d:=d) (H:=[]) (W:=[]) (nx:=4) (rm:=some z) (fr:=3) (se:=S1 3 (bt akS (qD [⟨key,2,1⟩]))) (pk:=pk) (by rw[jK];decide) (fK dC) rfl (by show(0:Int)<=2/\(2:Int)<40;omega) GP rfl (Dv hv hva h2) Ka (di h0 _).2 Hq (by rw[Lp];exact KW hv hva h0 h2) rfl rfl (by show 1<=1000;omega);rw[og] at this;exact this
theorem Dh(hv:Rt key v0)(hva:Rt key va)(h0:0<=k0)(h1:0<=k1)(h2:0<=k2):alone (GE (F3 (pS k0 10) (pA k1 ((leafL key 2).map entB)) (pH k2 (vs2 key v0 va))) (O3 o0 o1 o2) l d (pS k0 10) [] [] T3 4 (some z) 3 (S1 3 seat0) pk) 3 akS=some (GE (F3 (pS k0 10) (pA k1 ((leafL key 2).map entB)) (pH k2 (vs2 key v0 va))) (O3 o0 o1 o2) l d (pS k0 10) [] [] T3 4 (some z) 3 (S1 3 seat0) (0+1+1),{ rp0 with rows:=[(key,va)] }):=by rw[ot (vR dC)];rw[dA (by rw[seat_i,fK dC];rfl) (mH dC rfl) (Gc hv h0 h1)];rw[dA (by rw[seat_i,fK dC];rfl) (mH dC rfl) (Gf hv hva h0 h2)];rw[dA (by rw[seat_i,fK dC];rfl) (mH dC rfl) (Gg hv hva h0 h2)];rw[ey (by rw[seat_i,fK dC]),aP,og]
end
theorem zm(h:SB key a c 1500 (vs2 key v0 va) [] [] 4 seat0 seat0 e)(hv:Rt key v0)(hva:Rt key va):∃e1 r1 e2 r2 e3 r3,alone e 3 (aw 1)=some (e1,r1)/\r1.err=0/\alone e1 3 akS=some (e2,r2)/\r2.err=0/\r2.rows=[(key,va)]/\alone e2 3 (aw 6)=some (e3,r3)/\r3.err=0:=by
 obtain⟨l,d,k0,k1,k2,o0,o1,o2,z,pk,rfl,hL,hD,h0,h1,h2⟩:=h.ex;have eS:SE a seat0 seat0=S1 3 seat0:=by cases a<;>rfl
 rw[eS];obtain⟨p1,q1⟩:=eY (T:=[]) (i:=3) dC rfl rfl;obtain⟨l',H',T',p3,_,q3⟩:=xW dC hL oM Hq rfl rfl;exact⟨_,rp0,_,{ rp0 with rows:=[(key,va)] },_,rp0,q1,rfl,Dh hv hva h0 h1 h2,rfl,rfl,q3,rfl⟩
end
theorem Dn{e e':E}{i:Nat}{p p':Pn}{b:Pg}{v:Vw}(hf:fetch e p.wpg=some (e',b))(hv:view e' i=some v)(hp:pageP v p b=some (p',none)):show_ e i p=some (modPlan e' i p'):=by unfold show_;rw[hf];show(view e' i >>= _)=_;rw[hv];show(pageP v p b >>= _)=_;rw[hp];rfl
section
variable{key v0:Bs}{z pk k0 k1 k2:Int}{l:Lg}{d:Dk}{c:Nat}{rs:Int}
def Fa:List Pf:=[⟨pS 0 0,0,false⟩,pf0,pf0,pf0,pf0]
def Fb(p1:Pf):List Pf:=[⟨pS 0 0,0,false⟩,p1,pf0,pf0,pf0]
def Fc(p1 p2:Pf):List Pf:=[⟨pS 0 0,0,false⟩,p1,p2,pf0,pf0]
theorem IT(z:Int):readyGo 60 0 (FK (dkZ plainL z))=some (GE Fa [] ⟨2,3000,1,[],1,1,1500,[]⟩ (dkZ plainL (IntKind.i64.wrap (z+1))) (pS 0 0) [] [] [] 1 none 2 (S1 0 seat0) 4):=kR
theorem CY(z:Int):DO (dkZ plainL z):=⟨by show plainL.length=3322;unfold plainL;simp only[D9,G6,cN,G7,J6],rfl,rfl⟩
theorem HR{pk:Int}{z:Int}:PS.fetch ⟨⟨3002,40,Fa,[]⟩,l,dkZ plainL z⟩ 1 pk=(⟨⟨3002,40,Fb ⟨pA 0 [],1,false⟩,[]⟩,l,dkZ plainL z⟩,pA 0 [],0):=kR
def T0(x f q u:Int):List (Int×Tx):=[((0:Int),(⟨1,[],x,f,q,u⟩:Tx))]
theorem DF{x f q u:Int}:getD (T0 x f q u) ((0:Nat):Int)=some ⟨1,[],x,f,q,u⟩:=rfl
theorem JB{x f q u:Int}{t:Tx}(h:t.next=1/\t.act=[]):bJ (T0 x f q u) ((0:Nat):Int) t=T0 t.xid t.first t.last t.undoes:=by
 obtain⟨n,a,x',f',q',u'⟩:=t;obtain⟨rfl,rfl⟩:=h
 rfl
theorem JZ{x f q u:Int}:fewT (T0 x f q u)=true:=by
 unfold fewT xids T0;by_cases h:x=0
 ·subst h;rfl
 ·simp[h]
abbrev pl0(key v0:Bs):Pn:=plW { plL key v0 1 with seen:=1 } 1 key v0
theorem Mz(h:Rt key v0)(hL:LO l 0 1500):∃l',LO l' 0 2200/\l'.tail=l.tail/\stepM (GE Fa [] l d (pS 0 0) [] [] (T0 0 0 0 0) 1 none 2 (S1 0 (sAsk (putA key v0))) pk) 0=some (GE Fa [] l' d (pS 0 0) [(key,(0:Int))] [] (T0 1 0 0 0) 2 none 2 (S1 0 (bt (putA key v0) (plL key v0 1))) pk):=by obtain⟨l',b1,b2,b3,b4⟩:=kD (F:=Fa) (ow:=[]) (d:=d) (st:=pS 0 0) (H:=[]) (W:=[]) (T:=T0 0 0 0 0) (nx:=1) (rm:=none) (fr:=2) (se:=S1 0 (sAsk (putA key v0))) (pk:=pk) (i:=0) (t:=⟨1,[],0,0,0,0⟩) hL oM oM (by rw[jK];decide) (fK dC) h.k h.v DF rfl oM dC rfl;have b5:=tS (F:=Fa) (ow:=[]) (l:=l') (d:=d) (st:=pS 0 0) (H:=[]) (W:=[]) (T:=T0 1 0 0 0) (nx:=2) (rm:=none) (fr:=2) (se:=S1 0 (bt (putA key v0) (jD (putA key v0) 1))) (pk:=pk) (i:=0) (p:=jD (putA key v0) 1) (by rw[jK];decide) (fK dC) rfl rfl;rw[og] at b4 b5;exact⟨l',b1,b2,b4.trans b5⟩
theorem MA{z:Int}(h:Rt key v0):stepM (GE Fa [] l (dkZ plainL z) (pS 0 0) [(key,(0:Int))] [] (T0 1 0 0 0) 2 none 2 (S1 0 (bt (putA key v0) (plL key v0 1))) pk) 0=some (GE (Fb ⟨pA 0 [],1,false⟩) [] l (dkZ plainL z) (pS 0 0) [(key,(0:Int))] [] (T0 1 0 0 0) 2 none 2 (S1 0 (bt (putA key v0) (pl0 key v0))) pk):=by
 have hsm:smP (pA 0 [])=true:=rfl;have hf:fetch (GE Fa [] l (dkZ plainL z) (pS 0 0) [(key,(0:Int))] [] (T0 1 0 0 0) 2 none 2 (S1 0 (bt (putA key v0) (plL key v0 1))) pk) 1=some (GE (Fb ⟨pA 0 [],1,false⟩) [] l (dkZ plainL z) (pS 0 0) [(key,(0:Int))] [] (T0 1 0 0 0) 2 none 2 (S1 0 (bt (putA key v0) (plL key v0 1))) pk,pA 0 []):=by unfold fetch;rw[show(GE Fa [] l (dkZ plainL z) (pS 0 0) [(key,(0:Int))] [] (T0 1 0 0 0) 2 none 2 (S1 0 (bt (putA key v0) (plL key v0 1))) pk).s.fetch 1 (GE Fa [] l (dkZ plainL z) (pS 0 0) [(key,(0:Int))] [] (T0 1 0 0 0) 2 none 2 (S1 0 (bt (putA key v0) (plL key v0 1))) pk).pick=_ from HR (l:=l) (pk:=pk) (z:=z)];show(gd (true&&smP (pA 0 [])) >>= _)=_;rw[hsm];rfl
 rw[cZ (ak:=putA key v0) (p:=plL key v0 1) (seat_i.trans (fK dC))];show(show_ (GE Fa [] l (dkZ plainL z) (pS 0 0) [(key,(0:Int))] [] (T0 1 0 0 0) 2 none 2 (S1 0 (bt (putA key v0) (plL key v0 1))) pk) 0 (plL key v0 1) >>= _)=_;have hs:show_ (GE Fa [] l (dkZ plainL z) (pS 0 0) [(key,(0:Int))] [] (T0 1 0 0 0) 2 none 2 (S1 0 (bt (putA key v0) (plL key v0 1))) pk) 0 (plL key v0 1)=some (GE (Fb ⟨pA 0 [],1,false⟩) [] l (dkZ plainL z) (pS 0 0) [(key,(0:Int))] [] (T0 1 0 0 0) 2 none 2 (S1 0 (bt (putA key v0) (pl0 key v0))) pk):=by refine(Dn (p:=plL key v0 1) hf (Bw JZ (di oM _).2 DF) (Cu h oM oM)).trans ?_;unfold modPlan;rw[seat_i,fK dC,aP,og];rfl
 rw[hs];exact fe (e:=GE (Fb ⟨pA 0 [],1,false⟩) [] l (dkZ plainL z) (pS 0 0) [(key,(0:Int))] [] (T0 1 0 0 0) 2 none 2 (S1 0 (bt (putA key v0) (pl0 key v0))) pk) (p:=pl0 key v0) (by rw[seat_i];exact I3 Seat.plan (fK (i:=0) (s:=bt (putA key v0) (pl0 key v0)) dC)) (by show(2:Int)≠4;decide)
end
theorem vW{e:E}{r:Rc}{n:Int}{x:Int×Pg}(h:r.imgs=[x]):behind e r n=(doRec e.m pg0 n { r with imgs:=[(x.1,{ x.2 with lsn:=r.lsn })] }).map λq=>(e,{ r with imgs:=[(x.1,{ x.2 with lsn:=r.lsn })] },q):=by unfold behind;rw[h]
theorem Dg{e e':E}{i:Nat}{n:Int}{t:Tx}(h:e.room=none)(h2:e.fresh=2)(hp:2<e.pages)(ht:getD e.txns (i:Int)=some t)(hw:wr e i { rec0 with kind:=13,xid:=t.xid,imgs:=[(2,{ pg0 with kind:=2 })] } 0=some e')(hf:inZ e'.fresh=true):roomFor e i n=some ({ e' with fresh:=e'.fresh+1 },2):=by unfold roomFor;rw[h];show(gd (decide (e.fresh=2)&&decide (2<e.pages)) >>= λ_=>getD e.txns (i:Int) >>= λt=>wr e i { rec0 with kind:=13,xid:=t.xid,imgs:=[(2,{ pg0 with kind:=2 })] } 0 >>= λe=>gd (inZ e.fresh) >>= λ_=>some ({ e with fresh:=e.fresh+1 },(2:Int)))=_;rw[C9 h2,C9 hp,ht];show(wr e i { rec0 with kind:=13,xid:=t.xid,imgs:=[(2,{ pg0 with kind:=2 })] } 0 >>= _)=_;rw[hw];show(gd (inZ e'.fresh) >>= _)=_;rw[hf];rfl
section
variable{key v0:Bs}{z pk k0 k1 k2 nx fr:Int}{l:Lg}{d:Dk}{c:Nat}{rs:Int}{se:List Seat}{H:List (Bs×Int)}{W:List (Int×Bs)}{T:List (Int×Tx)}{rm:O Int}{k:Int}
theorem KX(h1:1<=k):(⟨⟨3002,40,Fb ⟨pA 0 [],1,false⟩,[]⟩,l,d⟩:PS).set 2 (pH k []) pk=(⟨⟨3002,40,Fc ⟨pA 0 [],1,false⟩ ⟨pH k [],2,true⟩,[(2,k)]⟩,l,d⟩,0):=by
 have hp:pErr (pH k [])=0:=(je (k:=k) (kd:=2) (l:=[]) oM ⟨oM,oM⟩ sI (λs hs=>by cases hs)).1;unfold PS.set;show(bif decide ((pEnc (pH k [])).2=0) then(bif decide (k<1) then _ else _) else _)=_;rw[ky,hp,C8 (oM:¬k<1)]
 rfl
theorem Mw(h1:1<=k):lay (GE (Fb ⟨pA 0 [],1,false⟩) [] l d (pS 0 0) H W T nx rm fr se pk) 2 (pH k [])=some (GE (Fc ⟨pA 0 [],1,false⟩ ⟨pH k [],2,true⟩) [(2,k)] l d (pS 0 0) H W T nx (some 490) fr se pk):=by
 unfold lay;rw[show(GE (Fb ⟨pA 0 [],1,false⟩) [] l d (pS 0 0) H W T nx rm fr se pk).s.set 2 (pH k []) (GE (Fb ⟨pA 0 [],1,false⟩) [] l d (pS 0 0) H W T nx rm fr se pk).pick=_ from KX (l:=l) (d:=d) (pk:=pk) h1]
 rfl
def r13:Rc:={ rec0 with kind:=13,xid:=1,imgs:=[(2,{ pg0 with kind:=2 })] }
theorem II{n:Int}(hL:LO l c rs)(hc:c<=1000)(hrs:0<=rs/\rs<=30000):∃l',LO l' (c+1008) rs/\l.tail<l'.tail/\l'.last=l.last /\
  roomFor (GE (Fb ⟨pA 0 [],1,false⟩) [] l d (pS 0 0) H W (T0 1 0 0 0) nx none 2 se pk) 0 n=some (GE (Fc ⟨pA 0 [],1,false⟩ ⟨pH l.tail [],2,true⟩) [(2,(l.tail:Int))] l' d (pS 0 0) H W (T0 1 l.tail l.tail 0) nx (some 490) 3 se pk,2):=by
 have htl:=hL.tail;have hp:pErr (pH l.tail [])=0:=(je (k:=(l.tail:Int)) (kd:=2) (l:=[]) oM ⟨oM,oM⟩ sI (λs hs=>by cases hs)).1;have hb:behind (GE (Fb ⟨pA 0 [],1,false⟩) [] l d (pS 0 0) H W (T0 1 0 0 0) nx none 2 se pk) { r13 with prev:=0,lsn:=(l.tail:Int) } 2=some (GE (Fb ⟨pA 0 [],1,false⟩) [] l d (pS 0 0) H W (T0 1 0 0 0) nx none 2 se pk,{ r13 with prev:=0,lsn:=(l.tail:Int),imgs:=[(2,pH l.tail [])] },pH l.tail []):=by
  refine(vW (x:=(2,{ pg0 with kind:=2 })) rfl).trans ?_;have:doRec 32 pg0 2 { r13 with prev:=0,lsn:=(l.tail:Int),imgs:=[(2,pH l.tail [])] }=some (pH l.tail []):=by show(gd (true&&true&&inL (l.tail:Int)) >>= λ_=>some (pH l.tail []))=_;rw[show inL (l.tail:Int)=true from C9 oM];rfl
  refine(I3 (Option.map _) this).trans ?_
  rfl
 have hro:RO { r13 with prev:=0,lsn:=(l.tail:Int),imgs:=[(2,pH l.tail [])] }:=by refine⟨by show(1:Int)<=13/\(13:Int)<=13;omega,?_,by show 0<=200;omega,rfl,rfl,rfl,rfl,.inr ⟨_,rfl,by show(0:Int)<=2;omega,by show(2:Int)<=100000;omega,hp⟩⟩;show ∀m∈[(0:Int),0,0,1,0,0,0,0],_;simp only[H2,Nu,NL,forall_eq_or_imp,forall_eq];omega
 have hrb:rcB { r13 with prev:=0,lsn:=(l.tail:Int),imgs:=[(2,pH l.tail [])] }=true:=by have hz:inZ (l.tail:Int)=true:=C9 oM;show((inZ (l.tail:Int)&&true)&&true&&true&&(decide ((l.tail:Int)<=1000000000000)&&true))=true;rw[hz,C9 (oM:(l.tail:Int)<=1000000000000)];rfl
 obtain⟨l',a1,a2,a3,a4⟩:=LD (r:=r13) (free:=0) (n:=2) (who:=((0:Nat):Int)) (t:=⟨1,[],1,0,0,0⟩) hL DF dC rfl (by show(0:Int)<=0/\(0:Int)<1000;omega) (by show(0:Int)<l.tail;omega) rfl hb rfl hrb hro (u:=0) rfl oM oM oM;rw[JB ⟨rfl,rfl⟩,Mw oM] at a4;refine⟨l',by simpa using a1,a2,a3,?_⟩;exact Dg (e:=GE (Fb ⟨pA 0 [],1,false⟩) [] l d (pS 0 0) H W (T0 1 0 0 0) nx none 2 se pk) (e':=GE (Fc ⟨pA 0 [],1,false⟩ ⟨pH l.tail [],2,true⟩) [(2,(l.tail:Int))] l' d (pS 0 0) H W (T0 1 l.tail l.tail 0) nx (some 490) 2 se pk) (i:=0) (t:=⟨1,[],1,0,0,0⟩) rfl rfl (by show(2:Int)<40;omega) DF a4 (show inZ (2:Int)=true from C9 oM)
end
section
variable{key v0:Bs}{z pk k0 k1 k2 nx fr:Int}{l:Lg}{d:Dk}{c:Nat}{rs:Int}{H:List (Bs×Int)}{W:List (Int×Bs)}{k:Int}
theorem LV{p1 p2:Pf}(h1:p1.num=1)(h2:p2.num=2):(Fc p1 p2).findIdx? (λf=>decide (f.num=2))=some 2:=by
 obtain⟨a,b,c⟩:=p1;obtain⟨a',b',c'⟩:=p2;obtain rfl:b=1:=h1;obtain rfl:b'=2:=h2
 rfl
theorem Fj{k s o w:Int}{dt:Bs}(hk:dkB k=true)(hk':1<=k/\k<=8)(hs:0<=s/\s<=10)(ho:0<=o/\o<=10)(hw:0<=w/\w<=10)(hd:dt.length<=200){n:Int}(hn:0<=n/\n<40):Few k 1 n s o w dt:=⟨hk,hk',oM,hn,oM,oM,oM,hd⟩
theorem Bc{e e1 e2:E}{i:Nat}{ak:Ak}{p:Pn}(hs:seatAt e i=bt ak p)(hw:p.wk=2)(hr:roomFor e i p.wsz=some (e1,2))(hsh:show_ (modPlan e1 i (see p 2 302)) i (see p 2 302)=some e2):stepM e i=ended e2 i:=by rw[cZ hs,hw];show((roomFor e i p.wsz >>= _) >>= _)=_;rw[hr];show(show_ (modPlan e1 i (see p 2 302)) i (see p 2 302) >>= _)=_;rw[hsh];rfl
theorem MB(h:Rt key v0)(hL:LO l c rs)(hc:c<=1000)(hrs:0<=rs/\rs<=20000):∃(l':Lg) (t2 z:Int),LO l' (c+1008+1008) (rs+700)/\(l.tail:Int)<t2/\t2<l'.tail/\120<=z /\
  stepM (GE (Fb ⟨pA 0 [],1,false⟩) [] l d (pS 0 0) H W (T0 1 0 0 0) nx none 2 (S1 0 (bt (putA key v0) (pl0 key v0))) pk) 0=some (GE (Fc ⟨pA 0 [],1,false⟩ ⟨pH t2 [old key v0 0],2,true⟩) [(2,(l.tail:Int))] l' d (pS 0 0) H W (T0 1 l.tail t2 1) nx (some z) 3 (S1 0 (bt (putA key v0) (plI (see (pl0 key v0) 2 302) key 0))) pk):=by
 obtain⟨l1,a1,a2,a3,a4⟩:=II hL hc oM;have htl:=hL.tail;have h1t:(0:Int)<=l1.tail:=oM;have hHL:HL []:=⟨K3 _,λs hs=>by cases hs⟩;have hnt:tuOk ⟨1,0,key,v0⟩=true:=h.tu oM oM;have hsm:=(bL oM sI hHL.t).2.2.2;have hqe:=(bL h1t (hHL.put hnt).1 (hHL.put hnt).2).1;obtain⟨z',ez,hz'⟩:=lD hHL hnt h1t;have hnl:(old key v0 0).length<=120:=(jY hnt).2;have hW:Wrt (Fc ⟨pA 0 [],1,false⟩ ⟨pH l.tail [],2,true⟩) [(2,(l.tail:Int))] l1 (T0 1 l.tail l.tail 0) (some 490) (some z') (c+1008) 0 2 rs 2 1 1 0 0 0 700 (old key v0 0) ⟨1,[],1,l.tail,l.tail,0⟩ (pH l.tail []) (pH l.tail ([]++[old key v0 0])):=⟨a1,oM,oM,DF,rfl,by show(0:Int)<=0/\(0:Int)<1000;omega,by show 0<=(l.tail:Int)/\(l.tail:Int)<l1.tail;omega,Fj rfl oM oM oM oM oM oM,LV rfl rfl,rfl,hsm,by show(l.tail:Int)<l1.tail;omega,HN hHL h oM oM,hqe,rfl,ez⟩;obtain⟨l2,b1,b2,b3,b4⟩:=hW.show_ (st:=pS 0 0) (fK dC) rfl JZ (di oM _).2 (DZ (p:=pl0 key v0) hHL h oM oM rfl rfl rfl) (show inZ (3:Int)=true from C9 oM);rw[og,JB ⟨rfl,rfl⟩] at b4;refine⟨l2,l1.tail,z',b1,oM,oM,hz' sI,?_⟩;refine(Bc (seat_i.trans (fK dC)) rfl a4 (e2:=GE (Fc ⟨pA 0 [],1,false⟩ ⟨pH l1.tail [old key v0 0],2,true⟩) [(2,(l.tail:Int))] l2 d (pS 0 0) H W (T0 1 l.tail l1.tail 1) nx (some z') 3 (S1 0 (bt (putA key v0) (plI (see (pl0 key v0) 2 302) key 0))) pk) ?_).trans ?_
 ·unfold modPlan;rw[seat_i,fK dC,aP,og];refine b4.trans ?_;have hz0:(txU (⟨1,[],1,l.tail,l.tail,0⟩:Tx) l1.tail (undK 1)).first=(l.tail:Int):=by show(bif decide ((l.tail:Int)=0) then(l1.tail:Int) else(l.tail:Int))=_;rw[C8 (oM:¬(l.tail:Int)=0)];rfl
  rw[hz0]
  rfl
 ·exact fe (by rw[seat_i];exact I3 Seat.plan (fK dC)) (by show(3:Int)≠4;decide)
theorem LU{p1 p2:Pf}(h1:p1.num=1):(Fc p1 p2).findIdx? (λf=>decide (f.num=1))=some 1:=by
 obtain⟨a,b,c⟩:=p1;obtain rfl:b=1:=h1
 rfl
theorem LS{p1 p2:Pf}:(Fc p1 p2).findIdx? (λf=>decide (f.num=0))=some 0:=rfl
theorem MC{t1 t2:Int}{p:Pn}{vs:List Bs}(h:Rt key v0)(ho:p.own=1)(hL:LO l c rs)(hc:c<=10000)(hrs:0<=rs/\rs<=20000)(h1:1<=t1)(h2:t1<t2)(h3:t2<l.tail):∃l':Lg,LO l' (c+1008) rs/\l.tail<l'.tail /\
  stepM (GE (Fc ⟨pA 0 [],1,false⟩ ⟨pH t2 vs,2,true⟩) [(2,t1)] l d (pS 0 0) H W (T0 1 t1 t2 1) nx (some z) 3 (S1 0 (bt (putA key v0) (plI p key 0))) pk) 0=some (GE (Fc ⟨pA l.tail ((leafL key 1).map entB),1,true⟩ ⟨pH t2 vs,2,true⟩) [(2,t1),(1,(l.tail:Int))] l' d (pS 0 0) H W (T0 1 t1 l.tail 1) nx (some z) 3 (S1 0 (fZ { rp0 with found:=p.hit })) pk):=by
 have htl:=hL.tail;have h0t:(0:Int)<=l.tail:=oM;have hsm:=(bU h.k oM (n:=0) oM).2.2.2;have hqe:=(bU h.k h0t (n:=1) oM).1;have hel:=uH h.k (s:=((0:Nat):Int)) oM;have hW:Wrt (Fc ⟨pA 0 [],1,false⟩ ⟨pH t2 vs,2,true⟩) [(2,t1)] l (T0 1 t1 t2 1) (some z) (some z) c 0 1 rs 1 3 1 0 0 0 0 (EB key ((0:Nat):Int)) ⟨1,[],1,t1,t2,1⟩ (pA 0 ((leafL key 0).map entB)) (pA 0 ((leafL key 1).map entB)):=⟨hL,oM,oM,DF,rfl,by show(0:Int)<=1/\(1:Int)<1000;omega,by show 0<=t2/\t2<(l.tail:Int);omega,Fj rfl oM oM oM oM oM oM,LU rfl,rfl,hsm,by show(0:Int)<l.tail;omega,HO h.k oM oM,hqe,rfl,rfl⟩;obtain⟨l',b1,b2,b3,b4⟩:=hW.say (by rw[jK];decide) (fK dC) rfl rfl JZ (di oM _).2 (uJ (v:=⟨32,1,[],1,running (T0 1 t1 t2 1),pS 0 0⟩) h.k oM oM ho) (show inZ (3:Int)=true from C9 oM) rfl rfl rfl;rw[og,JB ⟨rfl,rfl⟩] at b4;refine⟨l',by simpa using b1,b2,b4.trans ?_⟩;have hz0:(txU (⟨1,[],1,t1,t2,1⟩:Tx) l.tail (undK 3)).first=t1:=by show(bif decide (t1=0) then(l.tail:Int) else t1)=_;rw[C8 (oM:¬t1=0)];rfl
 rw[hz0]
 rfl
theorem MD{t1 t2 k1 k2:Int}{vs:List Bs}{m:Nat}(hL:LO l c rs)(hc:c<=10000)(hrs:700<=rs/\rs<=20000)(h1:1<=t1)(h2:t1<t2)(h3:t2<l.tail):∃l':Lg,LO l' (c+1008) (rs - 700)/\l.tail<l'.tail /\
  stepM (GE (Fc ⟨pA k1 ((leafL key m).map entB),1,true⟩ ⟨pH k2 vs,2,true⟩) [(2,t1),(1,t2)] l d (pS 0 0) H W (T0 1 t1 t2 1) nx (some z) 3 (S1 0 (sAsk (aw 6))) pk) 0=some (GE (F3 (pS l.tail 2) (pA k1 ((leafL key m).map entB)) (pH k2 vs)) (O3 l.tail t2 t1) l' d (pS l.tail 2) H W (T0 1 t1 l.tail 1) nx (some z) 3 (S1 0 (En (aw 6) t2 l.tail)) pk):=by
 have htl:=hL.tail;have h0t:(0:Int)<=l.tail:=oM;have hW:Wrt (Fc ⟨pA k1 ((leafL key m).map entB),1,true⟩ ⟨pH k2 vs,2,true⟩) [(2,t1),(1,t2)] l (T0 1 t1 t2 1) (some z) (some z) c 0 0 rs 0 7 1 0 0 0 0 [] ⟨1,[],1,t1,t2,1⟩ (pS 0 0) (pS 0 2):=⟨hL,oM,oM,DF,rfl,by show(0:Int)<=1/\(1:Int)<1000;omega,by show 0<=t2/\t2<(l.tail:Int);omega,Fj rfl oM oM oM oM sI oM,LS,rfl,(di oM _).2,by show(0:Int)<l.tail;omega,HP oM oM MG,(di h0t 2).1,rfl,rfl⟩;obtain⟨l',b1,b2,b3,b4⟩:=hW.commit (by rw[jK];decide) (fK dC) (by show t2≠0;omega) oM;rw[og,JB ⟨rfl,rfl⟩] at b4;refine⟨l',b1,b2,b4.trans ?_⟩;have hz0:(txU (⟨1,[],1,t1,t2,1⟩:Tx) l.tail false).first=t1:=by show(bif decide (t1=0) then(l.tail:Int) else t1)=_;rw[C8 (oM:¬t1=0)];rfl
 rw[hz0]
 rfl
end
section
variable{key v0 v1 v2:Bs}{z pk k0 k1 k2 nx fr:Int}{l:Lg}{d:Dk}{c:Nat}{rs:Int}{k:Int}
theorem ME{F:List Pf}{ow:List (Int×Int)}{st:Pg}{rm:O Int}{f q nxt en:Int}(hL:LO l c rs)(hD:DO d)(hr:700<=rs)(hy:(⟨3002,40,F,ow⟩:Pl).synced=⟨3002,40,F,ow⟩):∃l' d',LO l' c (rs - 700)/\DO d'/\l'.tail=l.tail /\
  stepM (GE F ow l d st [(key,(0:Int))] [] (T0 1 f q 1) nx rm fr (S1 0 (En (aw 6) nxt en)) pk) 0=some (GE F ow l' d' st [] [] [] nx rm fr (S1 0 (fZ rp0)) pk):=by
 obtain⟨l',d',b1,b2,b3,b4⟩:=rO (W:=[]) hL hD (by rw[jK];decide) (fK dC) DF (by show(0:Int)<=1/\(1:Int)<=1000;omega) (by show 700*(1:Int)<=rs;omega) sI hy;rw[og] at b4;exact⟨l',d',b1,b2,b3,b4⟩
theorem gk{F:List Pf}{ow:List (Int×Int)}{st:Pg}{H:List (Bs×Int)}{T:List (Int×Tx)}{rm:O Int}{s:Seat}{e':E}{i f:Nat}(hi:i<8)(ht:s.told=false) (hs:(match s.wk with
  | .none=>false
  | _=>true)=true) (h3:stepM (GE F ow l d st H [] T nx rm fr (S1 i s) k) i=some e'):aloneGo i (f+1) k (GE F ow l d st H [] T nx rm fr (S1 i s) pk)=aloneGo i f (k+1) e':=
 dA (by rw[seat_i,fK hi];exact ht) (mH hi hs) h3
theorem qV{e e':E}{r:Rp}{i:Nat}{a:Ak}(h:alone e i a=some (e',r))(hr:r.err=0):(alone e i a).bind okR=some e':=by rw[h];show(gd (decide (r.err=0)) >>= λ_=>some e')=_;rw[C9 hr];rfl
theorem FP(h:Rt key v0)(hL:LO l 0 1500)(z:Int):∃(l':Lg) (t1 t2 t3 y:Int) (b:Bool),LO l' 3024 2900/\1<=t1/\t1<t2/\t2<t3/\t3<l'.tail/\120<=y /\
  alone (GE Fa [] l (dkZ plainL z) (pS 0 0) [] [] (T0 0 0 0 0) 1 none 2 (S1 0 seat0) pk) 0 (putA key v0)=some (GE (Fc ⟨pA t3 ((leafL key 1).map entB),1,true⟩ ⟨pH t2 [old key v0 0],2,true⟩) [(2,t1),(1,t3)] l' (dkZ plainL z) (pS 0 0) [(key,(0:Int))] [] (T0 1 t1 t3 1) 2 (some y) 3 (S1 0 seat0) (0+1+1+1),{ rp0 with found:=b }):=by
 obtain⟨l1,a1,a2,s1⟩:=Mz h hL;have s2:=MA (l:=l1) (pk:=0+1) (z:=z) h;obtain⟨l3,t2,y,b1,b2,b3,b4,s3⟩:=MB h a1 oM oM;have ht1:=a1.tail;obtain⟨l4,c1,c2,s4⟩:=MC (p:=see (pl0 key v0) 2 302) h rfl b1 oM oM oM b2 b3;refine⟨l4,l1.tail,t2,l3.tail,y,(see (pl0 key v0) 2 302).hit,c1,oM,b2,b3,oM,b4,?_⟩;rw[ot (vR dC)];rw[gk dC rfl rfl s1];rw[gk dC rfl rfl s2];rw[gk dC rfl rfl s3];rw[gk dC rfl rfl s4];rw[ey (by rw[seat_i,fK dC]),aP,og]
theorem ER{l:Lg}{t1 t2 t3 y:Int}(hL:LO l 3024 2900)(hD:DO d)(h1:1<=t1)(h2:t1<t3)(h3:t3<l.tail):∃(l':Lg) (d':Dk),LO l' 4032 1500/\DO d'/\(l.tail:Int)<l'.tail /\
  alone (GE (Fc ⟨pA t3 ((leafL key 1).map entB),1,true⟩ ⟨pH t2 [old key v0 0],2,true⟩) [(2,t1),(1,t3)] l d (pS 0 0) [(key,(0:Int))] [] (T0 1 t1 t3 1) 2 (some y) 3 (S1 0 seat0) pk) 0 (aw 6)=some (GE (F3 (pS l.tail 2) (pA t3 ((leafL key 1).map entB)) (pH t2 [old key v0 0])) (O3 l.tail t3 t1) l' d' (pS l.tail 2) [] [] [] 2 (some y) 3 (S1 0 seat0) (0+1),rp0):=by
 obtain⟨l1,a1,a2,s1⟩:=MD hL oM oM h1 h2 h3;obtain⟨l2,d2,b1,b2,b3,s2⟩:=ME a1 hD oM Lm;refine⟨l2,d2,b1,b2,oM,?_⟩;rw[ot (vR dC)];rw[gk dC rfl rfl s1];rw[gk dC rfl rfl s2];rw[ey (by rw[seat_i,fK dC]),aP,og]
theorem xQ{i j:Nat}(hi:i<8)(hj:j<8):S1 i seat0=S1 j seat0:=by rw[Ln hi,Ln hj]
theorem ig{α β:Type}{x:O α}{y:α}{f:α->O β}(h:x=some y):(x >>= f)=f y:=by rw[h];rfl
theorem BB(h:Rt key v0)(z:Int):∃e,winE key v0 v1 v2 z=some e/\SI key v0 v1 v2 4032 e:=by
 have hL0:LO ⟨2,3000,1,[],1,1,1500,[]⟩ 0 1500:=⟨rfl,rfl,rfl,rfl,E4 _,rfl,by show 1<=1/\1<=1+0;omega⟩;obtain⟨p1,q1⟩:=eY (T:=[]) (i:=0) dC rfl rfl;obtain⟨l2,t1,t2,t3,y,b,a1,a2,a3,a4,a5,a6,q2⟩:=FP h hL0 (IntKind.i64.wrap (z+1));obtain⟨l3,d3,c1,c2,c3,q3⟩:=ER a1 (CY _) a2 oM a5;obtain⟨p4,q4⟩:=eY (T:=[]) (i:=1) dC rfl rfl;obtain⟨p5,q5⟩:=eY (T:=[((1:Int),tB false)]) (i:=2) dC rfl rfl;rw[xQ (j:=0) dC dC] at q4;rw[xQ (j:=0) dC dC] at q5;have hx2:=hL0.tail;refine⟨GE (F3 (pS l2.tail 2) (pA t3 ((leafL key 1).map entB)) (pH t2 [old key v0 0])) (O3 l2.tail t3 t1) l3 d3 (pS l2.tail 2) [] [] [(1,tB false),(2,tB false)] 2 (some y) 3 (SE true (sAsk (putA key v1)) (sAsk (putA key v2))) p5,?_,⟨l3,d3,l2.tail,t3,t2,l2.tail,t3,t1,y,p5,rfl,c1,c2,oM,oM,oM,oM⟩⟩;unfold winE;refine(ig (IT z)).trans ?_;refine(ig (qV q1 rfl)).trans ?_;refine(ig (qV q2 rfl)).trans ?_;refine(ig (qV q3 rfl)).trans ?_;refine(ig (qV q4 rfl)).trans ?_;refine(ig (qV q5 rfl)).trans ?_;rw[xQ (j:=1) dC dC];refine(ig (vR dC)).trans ?_
 rfl
def FinW(key v1 v2:Bs)(g:Wg):Prop:=∃a:Bool,g.won=(ia a:Int)/\∃e1 r1 e2 r2 e3 r3,alone g.e 3 (aw 1)=some (e1,r1)/\r1.err=0/\alone e1 3 akS=some (e2,r2)/\r2.err=0/\r2.rows=[(key,vA a v1 v2)]/\alone e2 3 (aw 6)=some (e3,r3)/\r3.err=0
theorem win_all(h0:Rt key v0)(h1:Rt key v1)(h2:Rt key v2)(z:Int):∃e,winE key v0 v1 v2 z=some e/\GoodW (FinW key v1 v2) 13 0 ⟨e,0,0⟩:=by obtain⟨e,he,hs⟩:=BB h0 z;refine⟨e,he,hs.good h0 h1 h2 oM (λa e h=>⟨a,rfl,zm h h0 ?_⟩) 0⟩;cases a<;>assumption
end
end M
open M (E Seat Wk Pn Rp Ak Tx Ctl Wg)
section
variable{w w' w1 w2:World}{P:Nat->Prop}{t b m:Nat}{B:Bk}{e e' e1 e2 e3:E}{i:Nat}{k:Int}{r r1 r2 r3:Rp}{a:Ak}{n:Nat}{g g' g'':Wg}
def jA(x:Bs×Bs):Bool:=decide (1<=x.1.length/\x.1.length<24/\x.2.length<=64)
theorem Ek{v:Value}{L:List (Bs×Bs)}(h:CellsAt w v L.length 2 (L.flatMap rowL)){k:Nat}(hk:k<L.length):∃ad,ixV 2 v (iv k)=some (.pointer (some ad))/\w.cell? ad=some (stv L[k].1)/\w.cell? (ad.add 1)=some (stv L[k].2):=by have e1:L[k]?=some L[k]:=E0 hk;obtain⟨ad,k1,_,k2⟩:=h.at dC hk .i64;have h0:=k2 0 dC;have h1:=k2 1 dC;rw[dy (f:=rowL) (λ_=>rfl) e1 dC] at h0 h1;exact⟨ad,k1,h0,h1⟩
theorem tK{v:Value}{L:List (Bs×Bs)}(h:CellsAt w v L.length 2 (L.flatMap rowL))(hn:L.length<=3):Cl prog 5 [v,iv 3] w λo w'=>o=.bool (L.all jA)/\Fm F0 w w':=by
 refine cU2 func5 ?_ (V [(4,[5])]);simp only[RU,h.lenV,C8 (oM:¬(3:Int)<(L.length:Int))];refine⟨λvs wx=>∃k:Nat,vs=[iv k]/\k<=L.length/\Fm F0 w wx/\(L.take k).all jA=true,λvs _=>(L.length - nth vs 0).toNat,⟨0,rfl,K3 _,Fm.refl _ _,rfl⟩,?_⟩;rintro w2 v1 ⟨k,hvs,hk,hf2,hall⟩;cases hvs;by_cases hlt:k<L.length
 ·obtain⟨ad,a1,a2,a3⟩:=Ek (h.keep hf2 iT) hlt;have hnot:jA L[k]=false->L.all jA=false:=λh=>by rw[Bool.eq_false_iff];intro hc;rw[G8.1 hc _ (K9 hlt)] at h;cases h
  have hnext:jA L[k]=true->(L.take (k+1)).all jA=true:=λh=>by rw[I1,List.all_append,hall,E0 hlt];simp[h]
  generalize L[k]=x at a2 a3 hnot hnext;simp only[RU,C9 (oM:(k:Int)<(L.length:Int)),a1,a2,show IntKind.i64.wrap ((k:Int)+1)=((k+1:Nat):Int) by rw[af]<;>omega];by_cases c1:1<=x.1.length
  ·by_cases c2:x.1.length<24
   ·by_cases c3:x.2.length<=64
    ·simp only[RU,C8 (oM:¬((x.1.length:Nat):Int)<1),C8 (oM:¬(24:Int)<=(x.1.length:Nat)),C8 (oM:¬(64:Int)<(x.2.length:Nat)),a3];exact⟨⟨k+1,rfl,hlt,hf2,hnext (show jA x=true from C9 ⟨c1,c2,c3⟩)⟩,by simp only[bl];omega⟩
    ·simp only[RU,C8 (oM:¬((x.1.length:Nat):Int)<1),C8 (oM:¬(24:Int)<=(x.1.length:Nat)),C9 (oM:(64:Int)<(x.2.length:Nat)),a3];exact⟨by rw[hnot (show jA x=false from C8 λe=>c3 e.2.2)],hf2⟩
   ·simp only[RU,C8 (oM:¬((x.1.length:Nat):Int)<1),C9 (oM:(24:Int)<=(x.1.length:Nat))];exact⟨by rw[hnot (show jA x=false from C8 λe=>c2 e.2.1)],hf2⟩
  ·simp only[RU,C9 (oM:((x.1.length:Nat):Int)<1)];exact⟨by rw[hnot (show jA x=false from C8 λe=>c1 e.1)],hf2⟩
 ·obtain rfl:k=L.length:=oM;rw[I5] at hall;simp only[RU,C8 (oM:¬((L.length:Nat):Int)<(L.length:Int)),hall];exact hf2
theorem xU{k:KV}(h:TW w1 P t B e)(hp:e.phase=5)(hf:Fm (λy=>¬P y) w w1)(hi:i<8)(ha:1<=a.call/\a.call<=9)(hq:(M.alone e i a).bind M.okR=some e')(hk:∀w',TW w' P t B e'->e'.phase=5->Fm (λy=>¬P y) w w'->k (.bool true) w'):Cl prog 9 [pv t,iv i,.agg (akC a)] w1 k:=by obtain⟨⟨e1,r1⟩,h1,h2⟩:=MK.1 hq;unfold M.okR at h2;obtain⟨_,hg,h2⟩:=bind_some h2;cases h2;refine(gl h hp hi ha h1).mono ?_;rintro _ w' ⟨rfl,h3,p3,f3⟩;rw[an hg];exact hk w' h3 p3 (bM hf f3)
theorem KR{x:Bs×Bs}{v:Value}(h:CellsAt w v 1 2 (rowL x)):∃ad,ixV 2 v (iv 0)=some (.pointer (some ad))/\w.cell? ad=some (stv x.1)/\w.cell? (ad.add 1)=some (stv x.2):=Ek (L:=[x]) (by simpa using h) (k:=0) (Nat.zero_lt_one)
theorem Aw{v:Value}{x:Bs×Bs}(h:TW w P t B e)(h5:e.phase=5)(hv:CellsAt w v 1 2 (rowL x))(hvP:∀y,blockOf v=some y->P y)(q1:(M.alone e 0 (M.aw 1)).bind M.okR=some e1)(q2:(M.alone e1 0 (M.putA x.1 x.2)).bind M.okR=some e2)(q3:(M.alone e2 0 (M.aw 6)).bind M.okR=some e3):Cl prog 8 [pv t,v] w λo w'=>o=.bool true/\TW w' P t B e3/\e3.phase=5/\Fm (λy=>¬P y) w w':=by
 have hl:lenV v=some (iv 1):=hv.lenV;refine cU2 func8 ?_ (V [(4,[5])]);refine bst (akC (M.aw 1)) (xU h h5 (Fm.refl _ _) dC dC q1 λw1 h1 p1 f1=>?_);simp only[RU];refine⟨λvs wx=>(vs=[iv 0]/\TW wx P t B e1/\e1.phase=5/\Fm (λy=>¬P y) w wx)\/(vs=[iv 1]/\TW wx P t B e2/\e2.phase=5/\Fm (λy=>¬P y) w wx),λvs _=>(1 - nth vs 0).toNat,.inl ⟨rfl,h1,p1,f1⟩,?_⟩;rintro w2 v1 (⟨hvs,h2,p2,f2⟩|⟨hvs,h2,p2,f2⟩)
 ·cases hvs;have hd:=Fm.drew F0 w2;obtain⟨ad,a1,a2,a3⟩:=KR ((hv.fS f2 (λ_ y hy e=>e (hvP y hy))).keep hd iT);simp only[RU,hl,show decide ((0:Int)<1)=true from rfl,a1,a2,a3];refine bst (akC (M.putA x.1 x.2)) ⟨rfl,xU (h2.aS hd) p2 (bM f2 (t0 hd)) dC (dC:1<=(3:Int)/\(3:Int)<=9) q2 λw3 h3 p3 f3=>?_⟩;simp only[RU,show IntKind.i64.wrap ((0:Int)+1)=1 from rfl];exact⟨.inr ⟨h3,p3,f3⟩,dC⟩
 ·cases hvs;simp only[RU,hl,show decide ((1:Int)<1)=false from rfl];refine bst (akC (M.aw 6)) (xU h2 p2 f2 dC dC q3 λw3 h3 p3 f3=>?_);exact⟨rfl,h3,p3,f3⟩
def IG:Nat->Nat->Wg->Option Wg
 | 0,_,g=>some g
 | f+1,s,g=>(M.repW s g) >>= λg=>IG f (s+1) g
theorem IJ{p k:Int}(h:M.roundW g p k=some g'):∃e1,M.runN g.e p k=some e1/\IG 2 1 { g with e:=e1 }=some g':=by unfold M.roundW at h;obtain⟨e1,h1,h⟩:=bind_some h;obtain⟨g2,h2,h⟩:=bind_some h;exact⟨e1,h1,by rw[IG,h2];show(M.repW 2 g2 >>= _)=_;rw[h];rfl⟩
def MJ(key v0 v1 v2:Bs)(eb e:E):Prop:=∃e1 e2 e3 e4 e5 e6:E,M.beginM M.ctlP=some eb/\(M.alone eb 0 (M.aw 1)).bind M.okR=some e1/\(M.alone e1 0 (M.putA key v0)).bind M.okR=some e2/\(M.alone e2 0 (M.aw 6)).bind M.okR=some e3/\(M.alone e3 1 (M.aw 1)).bind M.okR=some e4/\(M.alone e4 2 (M.aw 1)).bind M.okR=some e5/\M.ask e5 1 (M.putA key v1)=some e6/\M.ask e6 2 (M.putA key v2)=some e/\M.GoodW (M.FinW key v1 v2) 13 0 ⟨e,0,0⟩
theorem ti(w:World)(L:List (Bs×Bs))(hn:(L.flatMap rowL).length=L.length*2)(hl:L.length<=100):CellsAt (w.alloc (.cells (L.flatMap rowL).toArray 23)) (.slice (some ⟨w.heap.size,0,none⟩) L.length L.length) L.length 2 (L.flatMap rowL):=CellsAt.aT (dm (w:=w) (e:=23) (sz:=2) (n:=L.length) (l:=L.flatMap rowL) hn (E4 _) (by unfold maxLen;omega))
theorem Jd{key v0 v1 v2:Bs}{bv:Value}{L:List Int}(hL:CellsAt w bv L.length 1 (L.map iv))(haw:M.awakeM=true)(hE:[(key,v0),(key,v1),(key,v2)].all jA=true->∃eb e,MJ key v0 v1 v2 eb e):Cl prog 3 [.agg #[stv key,stv v0],.agg #[stv v1,stv v2],bv] w λo w'=>o=.bool true/\Fm F0 w w':=by
 refine cU3 func3 ?_ (V [(23,[9,10,15]),(14,[9,10,11]),(7,[8])]) (J [(19,[12]),(24,[9,10])]);refine ae ?_;rintro b1 w1 rfl hs1 hw1 hf1;refine ae ?_;rintro b2 w2 rfl hs2 hw2 hf2
 replace hw1:=hf2.heap hw1 id
 have F2:=Fmf hf1 hf2;have hL2:=hL.keep F2 iT;have hB1:w.heap.size<w2.heap.size:=oM;have hB2:w1.heap.size<w2.heap.size:=oM;have hB3:w.heap.size<=w1.heap.size:=oM;generalize w.heap.size=g1 at hw1 hB1 hB3;generalize w1.heap.size=g2 at hw2 hB2 hB3;have x0:ixA 2 1 (.pointer (some ⟨g2,0,none⟩)) (iv 0)=some (.pointer (some ⟨g2,0,none⟩)):=kR;have x1:ixA 2 1 (.pointer (some ⟨g2,0,none⟩)) (iv 1)=some (.pointer (some ⟨g2,1,none⟩)):=kR;simp only[RU,aa (n:=2) hw1 rfl,ab hw1,ab hw2,x0];refine bst #[stv key,stv v1] ?_;simp only[RU,ab hw1,ab hw2,x1];refine bst #[stv key,stv v2] (bsl 3 ([(key,v0),(key,v1),(key,v2)].flatMap rowL).toArray 23 ?_);have fa:=Fm.alloc F0 w2 (.cells ([(key,v0),(key,v1),(key,v2)].flatMap rowL).toArray 23);refine(tK (ti w2 [(key,v0),(key,v1),(key,v2)] rfl (dC:3<=100)) (E4 3)).mono ?_;rintro _ w3 ⟨rfl,fb⟩;have F3:=Fmf F2 (Fmf fa fb);cases hr:[(key,v0),(key,v1),(key,v2)].all jA with
 | false=>simp only[RU];refine(mM haw).mono ?_;rintro _ w4 ⟨rfl,f4⟩;exact⟨rfl,Fmf F3 f4⟩
 | true=>
  obtain⟨eb,e,e1,e2,e3,e4,e5,e6,q0,q1,q2,q3,q4,q5,q6,q7,hg⟩:=hE hr;have hw1:=(Fmf fa fb).heap hw1 id;have hw2:=(Fmf fa fb).heap hw2 id;have hL3:=hL2.keep (Fmf fa fb) iT;have hB1:=E7 hB1 (Fmf fa fb).size;have hB2:=E7 hB2 (Fmf fa fb).size;clear hL hL2 hE;have hpl:Cl prog 7 [] w3 λo w'=>∃t B,o=pv t/\TW w' (λy=>y<w3.heap.size) t B eb/\eb.phase=5/\Fm F0 w3 w':=by refine cU0 func7 ?_;refine bst (cfC M.ctlP) ((kU okP dC q0).mono ?_);rintro _ w' ⟨t,B,rfl,q1,q2,_,_,q3⟩;exact⟨t,B,rfl,q1,q2,q3⟩
  simp only[RU];refine hpl.mono ?_;rintro _ w4 ⟨t,B,rfl,h4,p4,f4⟩;have hw1:=f4.heap hw1 id;have hw2:=f4.heap hw2 id;simp only[RU,aa (n:=2) hw1 rfl];refine bsl 1 (rowL (key,v0)).toArray 23 ?_;have fc:=Fm.alloc F0 w4 (.cells (rowL (key,v0)).toArray 23);have hr1:CellsAt (w4.alloc (.cells (rowL (key,v0)).toArray 23)) (.slice (some ⟨w4.heap.size,0,none⟩) 1 1) 1 2 (rowL (key,v0)):=ti w4 [(key,v0)] rfl (dC:1<=100);have h5:=h4.add fc (E4 _) (by rw[aG];omega);have hL4:=hL3.keep (Fmf f4 fc) iT;have hw1:=fc.heap hw1 id;have hw2:=fc.heap hw2 id;have F4:=Fmf F3 (Fmf f4 fc);have hP:∀y,¬(y<w3.heap.size\/y=w4.heap.size)->w.heap.size<=y:=λy h=>by have:=F3.size;omega
  have hPa:g1<w3.heap.size\/g1=w4.heap.size:=.inl oM;have hPb:g2<w3.heap.size\/g2=w4.heap.size:=.inl oM;have hPL:L.map iv≠[]->∀y,blockOf bv=some y->(y<w3.heap.size\/y=w4.heap.size):=λhx y hy=>.inl (hL3.blt hx y hy);have hPr:∀y,blockOf (.slice (some ⟨w4.heap.size,0,none⟩) 1 1)=some y->(y<w3.heap.size\/y=w4.heap.size):=λy hy=>by cases hy;exact .inr rfl
  obtain⟨P,hPP⟩:∃P:Nat->Prop,P=λy=>y<w3.heap.size\/y=w4.heap.size:=⟨_,rfl⟩;rw[<- hPP] at h5
  replace hP:∀y,¬P y->w.heap.size<=y:=by rw[hPP];exact hP
  replace hPa:P g1:=by rw[hPP];exact hPa
  replace hPb:P g2:=by rw[hPP];exact hPb
  replace hPL:L.map iv≠[]->∀y,blockOf bv=some y->P y:=by rw[hPP];exact hPL
  replace hPr:∀y,blockOf (.slice (some ⟨w4.heap.size,0,none⟩) 1 1)=some y->P y:=by rw[hPP];exact hPr
  clear hPP hL3;refine(Aw (x:=(key,v0)) h5 p4 hr1 hPr q1 q2 q3).mono ?_;generalize w4.alloc (.cells (rowL (key,v0)).toArray 23)=w5 at fc hr1 h5 hL4 hw1 hw2 F4;rintro _ w6 ⟨rfl,h6,p6,f6⟩;simp only[RU];refine bst (akC (M.aw 1)) (xU h6 p6 f6 dC dC q4 λw7 h7 p7 f7=>?_);simp only[RU];refine bst (akC (M.aw 1)) (xU h7 p7 f7 dC dC q5 λw8 h8 p8 f8=>?_);simp only[RU];refine⟨λvs wx=>(vs=[iv 1]/\TW wx P t B e5/\e5.phase=5/\Fm (λy=>¬P y) w5 wx)\/(vs=[iv 2]/\TW wx P t B e6/\e6.phase=5/\Fm (λy=>¬P y) w5 wx)\/(vs=[iv 3]/\TW wx P t B e/\e.phase=5/\Fm (λy=>¬P y) w5 wx),λvs _=>(3 - nth vs 0).toNat,.inl ⟨rfl,h8,p8,f8⟩,?_⟩;rintro w9 u1 (⟨hvs,h9,p9,f9⟩|⟨hvs,h9,p9,f9⟩|⟨hvs,h9,p9,f9⟩)
  ·cases hvs;have hd:=Fm.drew F0 w9;have hw1:=f9.heap hw1 (λe=>e hPa);have hw2:=hd.heap (f9.heap hw2 (λe=>e hPb)) id;simp only[RU,show decide ((1:Int)<=2)=true from rfl,h9.x,ab hw1,show IntKind.i64.wrap ((1:Int) - 1)=0 from rfl,x0,ab hw2];refine bst (akC (M.putA key v1)) ⟨rfl,yd (h9.aS hd) p9 dC (dC:1<=(3:Int)/\(3:Int)<=9) q6 λwa ha fa=>?_⟩;simp only[RU,show((0:Int) != 0)=false from rfl,show IntKind.i64.wrap ((1:Int)+1)=2 from rfl];exact⟨.inr (.inl ⟨ha,um p9 q6,bM (bM f9 (t0 hd)) fa⟩),dC⟩
  ·cases hvs;have hd:=Fm.drew F0 w9;have hw1:=f9.heap hw1 (λe=>e hPa);have hw2:=hd.heap (f9.heap hw2 (λe=>e hPb)) id;simp only[RU,show decide ((2:Int)<=2)=true from rfl,h9.x,ab hw1,show IntKind.i64.wrap ((2:Int) - 1)=1 from rfl,x1,ab hw2];refine bst (akC (M.putA key v2)) ⟨rfl,yd (h9.aS hd) p9 dC (dC:1<=(3:Int)/\(3:Int)<=9) q7 λwa ha fa=>?_⟩;simp only[RU,show((0:Int) != 0)=false from rfl,show IntKind.i64.wrap ((2:Int)+1)=3 from rfl];exact⟨.inr (.inr ⟨ha,um p9 q7,bM (bM f9 (t0 hd)) fa⟩),dC⟩
  ·cases hvs;simp only[RU,show decide ((3:Int)<=2)=false from rfl];refine⟨λvs wx=>∃(m k:Nat) (g:Wg),m+k=13/\M.GoodW (M.FinW key v1 v2) m k g/\vs=[iv g.won,iv g.over,iv k]/\TW wx P t B g.e/\g.e.phase=5/\(0<=g.over/\g.over<=2*k)/\Fm (λy=>¬P y) w5 wx,λvs _=>(100 - nth vs 2).toNat,⟨13,0,_,rfl,hg,rfl,h9,p9,(by show(0:Int)<=0/\(0:Int)<=2*((0:Nat):Int);decide),f9⟩,?_⟩;rintro wa x1 x2 x3 ⟨m,k,g,hmk,hgo,hvs,ha,pa,hbd,fa⟩;cases hvs;by_cases hend:g.over<2
   ·obtain⟨m',rfl⟩:∃m',m=m'+1:=by
     cases m with
     | zero=>have:=hgo.1;omega
     | succ m=>exact⟨m,rfl⟩
    have hstep:=(hgo.resolve_left (λh=>by have:=h.1;omega)).2;simp only[RU,C9 hend];refine aL (λvs wx=>∃p:Int,vs=[iv p]/\wx=wa) ?_ ?_
    ·rintro _ wa ⟨p,rfl,rfl⟩;obtain⟨g',hr,hg'⟩:=hstep p;obtain⟨e1,hrun,hrep⟩:=IJ hr;simp only[RU,ha.x];refine(ha.run (Q:=λo _=>∃x,o=.tuple #[x,iv 0]) (λO u rv yv ss hR hP=>py hR pa hrun)).mono ?_;rintro _ wb ⟨⟨x,rfl⟩,hb,fb⟩;have pb:=(tP hrun).trans pa;simp only[RU,show((0:Int) != 0)=false from rfl];refine⟨λvs wx=>∃(f s:Nat) (gs:Wg),f+s=3/\vs=[iv gs.won,iv gs.over,iv s]/\TW wx P t B gs.e/\gs.e.phase=5/\IG f s gs=some g'/\(0<=gs.over/\gs.over+1<=2*(k:Int)+s)/\Fm (λy=>¬P y) w5 wx,λvs _=>(3 - nth vs 2).toNat,⟨2,1,{ g with e:=e1 },rfl,rfl,hb,pb,hrep,(oM:0<=g.over/\g.over+1<=2*(k:Int)+((1:Nat):Int)),bM fa fb⟩,?_⟩;rintro wc y1 y2 y3 ⟨f,s,gs,hfs,hvs,hc,pc,hrep,hbd2,fc⟩;cases hvs;cases f with
     | zero=>obtain rfl:s=3:=oM;cases hrep;simp only[RU,show decide (((3:Nat):Int)<=2)=false from rfl,show IntKind.i64.wrap ((k:Int)+1)=((k+1:Nat):Int) by rw[af]<;>omega];exact⟨⟨m',k+1,_,oM,hg',rfl,hc,pc,oM,fc⟩,by simp only[Iu];omega⟩
     | succ f=>
      obtain⟨g2,hr2,hrep2⟩:=bind_some hrep;have hs8:s<8:=oM;have ws:IntKind.i64.wrap ((s:Int)+1)=((s+1:Nat):Int):=by rw[af]<;>omega
      simp only[RU,C9 (oM:(s:Int)<=2)];refine aL (λvs wx=>∃gs':Wg,vs=[iv gs'.won,iv gs'.over]/\TW wx P t B gs'.e/\gs'.e.phase=5/\IG f (s+1) gs'=some g'/\(0<=gs'.over/\gs'.over+1<=2*(k:Int)+((s+1:Nat):Int))/\Fm (λy=>¬P y) w5 wx) ?_ ?_
      ·rintro _ wd ⟨gs',rfl,q1,q2,q3,q4,q5⟩;simp only[RU,ws];exact⟨⟨f,s+1,gs',oM,rfl,q1,q2,q3,q4,q5⟩,by simp only[Iu];omega⟩
      ·intro kk hkk;simp only[RU,hc.x];unfold M.repW at hr2;cases hr:M.replyM gs.e s with
       | none=>
        rw[hr] at hr2;cases hr2;have hno:Cl prog 12 [pv B.x,iv s] wc λo w'=>o=.tuple #[.agg (rpC M.rp0 nl),.bool false]/\Fm F0 wc w':=by obtain⟨O,u,rv,yv,ss,cs,hR,_⟩:=id hc;exact jH hR (hc.oF hs8) (rR hr)
        refine hno.mono ?_;rintro _ wd ⟨rfl,fd⟩;simp only[RU];refine aF (us:=rpC M.rp0 nl) (λwf hsf hwf ff=>?_) rfl rfl rfl;have fdf:=Fmf fd ff;exact hkk _ _ ⟨gs,rfl,hc.aS fdf,pc,hrep2,oM,bM fc (t0 fdf)⟩
       | some x=>
        obtain⟨e8,r⟩:=x;rw[hr] at hr2;dsimp only at hr2;refine(hc.run (Q:=λo w'=>∃rr,o=.tuple #[.agg (rpC r rr),.bool true]/\rr.oneCell'=true) (λO u rv yv ss hR hP=>(hU hR (hc.oF hs8) hr).mono (by rintro o w' ⟨rr,y1,y2,_,y3⟩;exact⟨⟨rr,y1,gY y2⟩,y3⟩))).mono ?_;rintro _ wd ⟨⟨rr,rfl,hrr⟩,hd,fd⟩;have pd:=(vn hr).trans pc;simp only[RU];refine aF (us:=rpC r rr) (λwf hsf hwf ff=>?_) rfl rfl (by simp[hrr];exact⟨rfl,rfl,rfl⟩);have hf:=hd.aS ff;have Ff:=bM (bM fc fd) (t0 ff);simp only[RU,ab hwf];have wo:IntKind.i64.wrap (gs.over+1)=gs.over+1:=by rw[af]<;>omega
        by_cases h1:r.err=180
        ·rw[C9 h1] at hr2;cases hr2;simp only[RU,h1,show((180:Int) == 180)=true from rfl,wo];exact hkk _ _ ⟨_,rfl,hf,pd,hrep2,(oM:0<=gs.over+1/\gs.over+1+1<=2*(k:Int)+((s+1:Nat):Int)),Ff⟩
        ·rw[C8 h1] at hr2;by_cases h2:r.err=0
         ·rw[C9 h2] at hr2;simp only[RU,h2,show((0:Int) == 180)=false from rfl,show((0:Int) != 0)=false from rfl];by_cases h3:gs.won=(s:Int)
          ·rw[C9 h3] at hr2;cases hr2;simp only[RU,Nj.2 h3,wo];exact hkk _ _ ⟨_,rfl,hf,pd,hrep2,(oM:0<=gs.over+1/\gs.over+1+1<=2*(k:Int)+((s+1:Nat):Int)),Ff⟩
          ·rw[C8 h3] at hr2;by_cases h4:gs.won=0
           ·rw[C9 h4] at hr2;obtain⟨e9,h9,hr2⟩:=bind_some (show(M.ask e8 s (M.aw 6) >>= λe=>some (⟨e,(s:Int),gs.over⟩:Wg))=some g2 from hr2);cases hr2;simp only[RU,K2.2 h3,show(gs.won != 0)=false by rw[h4];rfl,hf.x];refine bst (akC (M.aw 6)) (yd hf pd hs8 (dC:1<=(6:Int)/\(6:Int)<=9) h9 λwg hg fg=>?_);exact hkk _ _ ⟨_,rfl,hg,um pd h9,hrep2,(oM:0<=gs.over/\gs.over+1<=2*(k:Int)+((s+1:Nat):Int)),bM Ff fg⟩
           ·rw[C8 h4] at hr2;cases hr2
         ·rw[C8 h2] at hr2;cases hr2
    ·intro kk hkk;have hL5:=hL4.fS fa (λhx y hy e=>e (hPL hx y hy));have hLn:L.length<=9223372036854775807:=by obtain⟨⟨a,c,_,y1,y2,_⟩,_⟩:=hL5;unfold maxLen at y2;omega
     simp only[RU,hL5.lenV];by_cases hl0:0<L.length
     ·have hmd:=NX k hl0;obtain⟨ad,i1,_,i3⟩:=hL5.j4 (i:=k % L.length) (x:=iv L[k % L.length]) (by rw[F8,E0 hmd];rfl) .i64
      replace i1:ixV 1 bv (iv ((k % L.length:Nat):Int))=_:=i1
      simp only[RU,C9 (oM:(0:Int)<(L.length:Int)),fW (n:=k) (m:=L.length) _ hl0 oM rfl,i1,i3];exact hkk _ _ ⟨_,rfl,rfl⟩
     ·simp only[RU,C8 (oM:¬(0:Int)<(L.length:Int))];exact hkk _ _ ⟨0,rfl,rfl⟩
   ·have hfin:M.FinW key v1 v2 g:=by
     cases m with
     | zero=>exact hgo.2
     | succ m=>exact(hgo.resolve_right (λh=>by have:=h.1;omega)).2
    obtain⟨a,hwon,f1,r1,f2,r2,f3,r3,z1,z2,z3,z4,z5,z6,z7⟩:=hfin;simp only[RU,C8 hend];refine(nM ha pa (dC:3<8) z1 z2 z3 z4 (by rw[z5];show 1<16;decide) z6 z7).mono ?_;rintro _ wb ⟨rv,rfl,hrv,fb⟩;rw[z5] at hrv;have hd:=Fm.drew F0 wb;have fw:=bM (bM fa fb) (t0 hd);have hw1:=(bM fa fb).heap hw1 (λe=>e hPa);have hw2:=fw.heap hw2 (λe=>e hPb);have tail:∀va:Bs,CellsAt wb rv 1 2 ([(key,va)].flatMap rowL)->Cl prog 14 [rv,.slice (some ⟨wb.drew.heap.size,0,none⟩) 1 1] (wb.drew.alloc (.cells (rowL (key,va)).toArray 23)) λo w'=>o=.bool true/\Fm F0 wb.drew w':=λva hv=>by have fc:=Fm.alloc F0 wb.drew (.cells (rowL (key,va)).toArray 23);refine(mI (L:=[(key,va)]) (hv.keep (Fmf hd fc) iT) (ti wb.drew [(key,va)] rfl (dC:1<=100))).mono ?_;rintro _ wc ⟨rfl,fd⟩;exact⟨rfl,Fmf fc fd⟩
    have last:∀{wc:World},Fm F0 wb.drew wc->Cl prog 6 [] wc λo w'=>o=.bool true/\Fm F0 w w':=λ{wc} fc=>by refine(mM haw).mono ?_;rintro _ wd ⟨rfl,fd⟩;exact⟨rfl,Fm.own F4 (bM fw (t0 (Fmf fc fd))) hP⟩
    cases a with
    | true=>simp only[RU,show g.won=1 from hwon,show((1:Int) != 0)=true from rfl,ab hw1,show IntKind.i64.wrap ((1:Int) - 1)=0 from rfl,x0,ab hw2];refine bst #[stv key,stv v1] ⟨rfl,bsl 1 (rowL (key,v1)).toArray 23 ((tail v1 hrv).mono ?_)⟩;rintro _ wc ⟨rfl,fc⟩;simp only[RU];exact(last fc).mono (by rintro _ wd ⟨rfl,fd⟩;simp only[RU];exact fd)
    | false=>simp only[RU,show g.won=2 from hwon,show((2:Int) != 0)=true from rfl,ab hw1,show IntKind.i64.wrap ((2:Int) - 1)=1 from rfl,x1,ab hw2];refine bst #[stv key,stv v2] ⟨rfl,bsl 1 (rowL (key,v2)).toArray 23 ((tail v2 hrv).mono ?_)⟩;rintro _ wc ⟨rfl,fc⟩;simp only[RU];exact(last fc).mono (by rintro _ wd ⟨rfl,fd⟩;simp only[RU];exact fd)
end
namespace M
theorem awake_true:awakeM=true:=kR
end M
def vI:Vw prog 3 Int:=Lz .i64 underlying3 (by kernel_rfl)
def vInts:Vw prog 25 (List Int):=Ew underlying25 (by kernel_rfl) vI
def vS:Vw prog 9 Bs:=LB underlying9 (by kernel_rfl)
def vRow:Vw prog 23 (Bs×Bs×Unit):=Bv underlying23 (DW rfl 1 (by kernel_rfl) vS (DW rfl 1 (by kernel_rfl) vS Ks)) (by kernel_rfl)
def vPair:Vw prog 24 (Bs×Bs) where
 rel:=λ_ cs x=>cs=[stv x.1,stv x.2]
 keep:=λh _=>h
 len:=λh=>by rw[h,show prog.cellsOf 24=2 by kernel_rfl];rfl
 opens:=λ{H enc w base spare held fuel cs y} h _=>by
  obtain⟨xs,m,_,_,hlen,hl,hel⟩:=DataW.trod_array underlying24 h
  rw[show prog.cellsOf 24=2 by kernel_rfl] at hlen
  rw[show prog.cellsOf 9=1 by kernel_rfl] at hel
  match cs,hlen,xs,hl with
  | [a,b],_,[x,y],_=>
   obtain⟨s,h1,_⟩:=DataW.trod_string underlying9 (hel 0 (by decide))
   obtain⟨t,h2,_⟩:=DataW.trod_string underlying9 (hel 1 (by decide))
   refine⟨(s.data.toList,t.data.toList),?_⟩
   simp only[stv,vD]
   simpa using ⟨by simpa using h1,by simpa using h2⟩
theorem arg_arr{W:World}{base:Nat}{v:Value}(hv:Value.okWide prog W .any base 24 v):∃cs,v=.agg cs:=by simp only[Value.okWide,underlying24] at hv;obtain⟨cs,h1,_⟩:=hv;exact⟨cs,h1⟩
theorem win_law{w:World}{cs0 cs1:Array Value}{x0:Bs×Bs×Unit}{x1:Bs×Bs}{bv:Value}{L:List Int}(h0:vRow.rel w cs0.toList x0)(h1:vPair.rel w cs1.toList x1)(hb:SliceAs vI w bv L):Cl prog 3 [.agg cs0,.agg cs1,bv] w λv w'=>v=.bool true/\Fm (λ_=>False) w w':=by
 have hL:CellsAt w bv L.length 1 (L.map iv):=hb.cells kR (λcs x h=>h.1);obtain⟨c1,c2,q1,⟨q2,_⟩,c3,c4,q3,⟨q4,_⟩,q5⟩:=h0;obtain⟨a0,b0,_⟩:=x0;obtain⟨a1,b1⟩:=x1;have e0:cs0=#[stv a0,stv b0]:=by apply Array.toList_inj.1;rw[q1,q2,q3,q4,q5];rfl
 have e1:cs1=#[stv a1,stv b1]:=Array.toList_inj.1 h1;rw[e0,e1];refine Jd hL M.awake_true λhr=>?_;obtain⟨z0,hf⟩:=M.formatP;simp only[NF,N5,NP,E5,jA,D8] at hr;obtain⟨⟨r1,r2,r3⟩,⟨_,_,r4⟩,⟨_,_,r5⟩⟩:=hr;have hk:∀v:Bs,v.length<=64->M.Rt a0 v:=λv h=>⟨C9 ⟨r1,Nat.le_of_lt r2⟩,h⟩;obtain⟨e,he,hg⟩:=M.win_all (hk b0 r3) (hk a1 r4) (hk b1 r5) z0;unfold M.winE at he;obtain⟨eb,s0,he⟩:=bind_some he;obtain⟨f1,s1,he⟩:=bind_some he;obtain⟨f2,s2,he⟩:=bind_some he;obtain⟨f3,s3,he⟩:=bind_some he;obtain⟨f4,s4,he⟩:=bind_some he;obtain⟨f5,s5,he⟩:=bind_some he;obtain⟨f6,s6,he⟩:=bind_some he;exact⟨eb,e,f1,f2,f3,f4,f5,f6,BV hf (M.openP (M.dkZ_c _ _)) s0,s1,s2,s3,s4,s5,s6,he,hg⟩
end Go.Proofs.YtmdmffeoehfjgaaGreatDoor
namespace Go.Al
open Go.ChangeShapes Go.WideShapes Go.ChangeAt Go.RowKit
theorem law_laid{H:Type}{enc:TypeId×Value->H}{C:Checked}{os:Os}{f:FuncId}{fn:Func}{s:ChangeSpec}{conds:List PathCond}{tb:TypeId}{X:World->Array Value->Prop}(hX:∀(w w':World) (args:Array Value),w.heap=w'.heap->X w args->X w' args)
  (own:ownKnob C.prog.godebug=none) (started:os.Started) (noInit:C.prog.inits.idxOf? f=none) (hfn:C.prog.funcs[f]?=some fn)
  (hlaid:laidOutB C.prog=true)
  (witness:∃(w:World) (tape:Tape) (i:Input),w.os=os/\(w.forCall tape i).Shaped C.prog/\i.vars=[]/\Input.okWide C.prog (w.forCall tape i) .any w.heap.size f i /\
   ((s.pre enc C.prog fn conds false (w.forCall tape i).memory i.args/\X (w.forCall tape i).memory i.args)/\sizedMet enc C.prog fn (OpenSpec.ofChange s) false (w.forCall tape i).memory i.args)/\({}:Assume).holds C.prog (lone (Frame.enter C.prog f i.args .normal) [] (w.forCall tape i)))
  (hres:fn.resultTypes=#[tb]) (hbool:C.prog.underlying tb=some .bool) (hvars:s.vars=[])
  (hrow:∀t∈fn.params.toList,C.prog.readableRec t=true/\t<C.prog.types.size)
  (hs:∀ds:List (DataW H),ds.length=fn.params.toList.length->s.fn H ds={ results:=[.lit (.bool true)],args:=ds,vars:=[] })
  (law:∀(W:World) (args:List Value) (ds:List (DataW H)) (p:List MemPlace),LawIn enc C.prog fn.params.toList W args ds p->Cl C.prog f args W λv w'=>v=.bool true/\Fm (λ_=>False) W w'):
  ReturnsInHanded {} C os f .any (λw args=>(s.pre enc C.prog fn conds false w args/\X w args)/\sizedMet enc C.prog fn (OpenSpec.ofChange s) false w args) (s.post enc C.prog fn false true false false):=by
 refine returnsInHanded_of_change_and (X:=X) hX own started noInit hfn witness ?_;intro W base args ds gs before hval hW hcnd hsz _ _;have hW':=hW;obtain⟨p,q,hA,hV,rfl,hfz,hnd⟩:=hW;rw[hvars] at hV;obtain⟨rfl,rfl⟩:=trodVars_none hV;have hty:s.plain.varTypes C.prog=[]:=by simp[DataSpec.varTypes,ChangeSpec.plain,hvars]
 simp only[hty,G9] at hsz;have hlt:∀x∈p,x.block<W.heap.size:=λx hx=>hW'.lt x (by simp[hx]);have hlen:=(trodAll_length hA).2;refine(cl_true (law W args.toList ds p ⟨hA,⟨base,λj t v hj hv=>hval j t v (by simpa using hj) (by simpa using hv)⟩,hsz,hlt⟩)).mono λe W' ⟨he,hb⟩=>?_;subst he;refine⟨_,rfl,ds,[],p++[],[],p,[],hW',?_,?_,?_,hb.frame _,λh=>by cases h⟩
 ·rw[G9,hs ds hlen,hres];exact trodAll_cons_mk (shut_bool hbool _) trodAll_mk0
 ·rw[G9,hs ds hlen];exact trodAll_below hlaid hb hrow hA hlt
 ·rw[G9,hs ds hlen,hvars];trivial
end Go.Al
