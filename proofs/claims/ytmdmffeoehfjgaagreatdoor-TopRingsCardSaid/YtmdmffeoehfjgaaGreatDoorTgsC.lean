/- Laid for one claim by slim.py out of: parts. -/
import Derived.Test.YtmdmffeoehfjgaaGreatDoorTgsB
set_option maxRecDepth 100000
set_option maxHeartbeats 0
set_option linter.unusedVariables false
set_option linter.unusedSimpArgs false
set_option linter.unusedSectionVars false
open Go.Proofs.Tryz (prog)
namespace Go.Proofs.YtmdmffeoehfjgaaGreatDoor
open Go.Al Go.Proofs
def gI(l:List Int)(i:Nat):Int:=l.getD i 0
def uZ(a:List Int)(st:St2):Option Rc:=
 let t:=rt 512 st;let sl:=rl 255 t.2;let mo:=rl 255 sl.2;let ni:=rn 4 mo.2
 (vA ni.1.toNat ni.2).bind λim=>
 (nM (rn 8192 im.2).1.toNat (rn 8192 im.2).2).bind λpg=>
 (nM (rn 1024 pg.2).1.toNat (rn 1024 pg.2).2).bind λtx=>
 bif decide (vz tx.2.1 tx.2.2=0) then some ⟨gI a 0,gI a 1,gI a 2,gI a 3,gI a 4,gI a 5,gI a 6,gI a 7,gI a 8,gI a 9,t.1,sl.1,mo.1,im.1,pg.1,tx.1⟩ else none
def cz(s:Bs):Option Rc:=uZ (ten s).1 (ten s).2
def gi(d:Bs):Option Rc×Nat×Int:=
 bif decide (d.length<8) then(none,0,40)
 else bif decide (ofN (d.take 4)=0)||decide (65535<ofN (d.take 4)) then(none,0,41)
 else bif decide (d.length<8+ofN (d.take 4)) then(none,0,40)
 else bif !decide (ofN ((d.drop 4).take 4)=crc ((d.drop 8).take (ofN (d.take 4)))) then(none,0,30)
 else match cz ((d.drop 8).take (ofN (d.take 4))) with
  | none=>(none,0,41)
  | some x=>bif decide ((rCheck x).2=0)&&decide ((rCheck x).1=(d.drop 8).take (ofN (d.take 4))) then(some x,8+ofN (d.take 4),0) else(none,0,41)
def okN(n:Int):Prop:=0<=n/\n<=4611686018427387904
theorem Ad(n:Nat):bF n=ql n:=by unfold bF;rw[(oM:(max (n:Int) 0).toNat=n)]
theorem fw{n most:Int}(h0:0<=n)(h1:n<=most)(hm:most<=4611686018427387904)(t:Bs):rn most (bF n++t,0)=(n,(t,0)):=by obtain⟨k,rfl⟩:=E9 h0;unfold rn rdNum;rw[C9 rfl,D8,Ad];have:=yo most 9 0 k 0 t oM oM oM (by simp only[Nat.pow_zero,IZ,E7];omega);simp only[Nat.pow_zero,IZ,E7] at this;exact this
theorem BP{s:Bs}{most:Int}(h1:(s.length:Int)<=most)(hm:most<=4611686018427387904)(t:Bs):rt most (iK s++t,0)=(s,(t,0)):=by have:=fw (n:=s.length) (most:=most) oM h1 hm (s++t);unfold rt iK;rw[G7,this];simp only[Jm,D8];rw[C3 (by rw[C5];omega),C8,H6,List.take_left,List.drop_left]
theorem tf:∀(l:List Int) (t:Bs),(∀n∈l,okN n)->rC l.length (cu l++t,0)=(l,(t,0))
 | [],t,_=>rfl
 | n::l,t,h=>by
  have h0:=h n sI;have ih:=tf l t (λm hm=>h m (by simp[hm]));have e:cu (n::l)++t=bF n++(cu l++t):=by simp[cu]
  rw[G2,rC,e,fw h0.1 h0.2 (Kd _)];simp only[Jm,D8];rw[ih]
theorem BO{l:List Int}{most:Int}(h1:(l.length:Int)<=most)(hm:most<=4611686018427387904)(h:∀n∈l,okN n)(t:Bs):rl most (dU l++t,0)=(l,(t,0)):=by unfold rl dU;rw[G7,fw oM h1 hm];simp only[H6];exact tf l t h
theorem tr{s:Bs}(h:s.length=512):nG (iB s)=s/\(iB s).length<=512:=by
 have key:∀l:Bs,∃n,l=List.replicate n 0++l.dropWhile (· == 0):=by
  intro l;induction l with
  | nil=>exact⟨0,rfl⟩
  | cons x l ih=>
   rw[List.dropWhile_cons];by_cases hx:x=0
   ·subst hx;obtain⟨n,hn⟩:=ih;refine⟨n+1,?_⟩;simp only[I0,if_true,JK,Jj];rw[<- hn]
   ·refine⟨0,?_⟩;rw[IT (by simpa using hx)];rfl
 obtain⟨n,hn⟩:=key s.reverse;have h1:s=iB s++aG n:=by have:=IR List.reverse hn;rw[List.reverse_reverse,List.reverse_append,List.reverse_replicate] at this;exact this
 have hl:=IR List.length h1;rw[C5,cm] at hl;refine⟨?_,oM⟩;unfold nG;rw[(oM:512 - (iB s).length=n)];exact h1.symm
theorem xq{l:List (Int×Pg)}(h:dS l=0):∀m∈l,pErr m.2=0:=by
 induction l with
 | nil=>intro m hm;cases hm
 | cons x l ih=>
  unfold dS at h;cases hx:decide (pErr x.2=0) with
  | true=>
   rw[hx,D8] at h;intro m hm;rcases H3.1 hm with rfl|hm
   ·simpa using hx
   ·exact ih h m hm
  | false=>rw[hx,C8] at h;rw[C7] at hx;exact absurd h hx
theorem te:∀(l:List (Int×Pg)) (t:Bs),(∀m∈l,okN m.1/\pErr m.2=0/\m.2.lsn<=9223372036854775807)->vA l.length (l.flatMap sJ++t,0)=some (l,(t,0))
 | [],t,_=>rfl
 | m::l,t,h=>by
  obtain⟨h0,h1,h2⟩:=h m sI;have ih:=te l t (λm hm=>h m (by simp[hm]));have e:(m::l).flatMap sJ++t=bF m.1++(iK (iB (pEnc m.2).1)++(l.flatMap sJ++t)):=by simp[sJ]
  obtain⟨e1,e2⟩:=tr (ij h1);rw[G2,vA,e,fw h0.1 h0.2 (Kd _)];simp only;rw[BP oM oM];simp only;rw[e1,Cr h1 h2,ih]
  rfl
theorem nN:∀(l:List (Int×Int)) (t:Bs),(∀m∈l,okN m.1/\okN m.2)->nM l.length (l.flatMap prB++t,0)=some (l,(t,0))
 | [],t,_=>rfl
 | m::l,t,h=>by
  obtain⟨h0,h1⟩:=h m sI;have ih:=nN l t (λm hm=>h m (by simp[hm]));have e:(m::l).flatMap prB++t=bF m.1++(bF m.2++(l.flatMap prB++t)):=by simp[prB]
  rw[G2,nM,e,fw h0.1 h0.2 (Kd _)];simp only;rw[fw h1.1 h1.2 (Kd _),ih]
  rfl
structure Good (r : Rc) : Prop where
 kind : 1 ≤ r.kind ∧ r.kind ≤ 13
 nums : ∀ n ∈ rNums r, okN n
 data : r.data.length ≤ 512
 slots : r.slots.length ≤ 255
 more : r.more.length ≤ 255
 imgs : r.imgs.length ≤ 4
 pages : r.pages.length ≤ 8192
 txns : r.txns.length ≤ 1024
 img : ∀ m ∈ r.imgs, pErr m.2 = 0
 lsns : ∀ m ∈ r.imgs, m.2.lsn ≤ 9223372036854775807
theorem Cg{n:Int}(h:vu n=false):okN n:=by unfold vu at h;rw[JO,C7,C7] at h;unfold okN;omega
theorem ir{r:Rc}(h:(rCheck r).2=0)(hl:∀m∈r.imgs,m.2.lsn<=9223372036854775807):Good r/\1<=r.lsn/\(rCheck r).1=fp r/\(fp r).length<=65535:=by
 unfold rCheck at h ⊢;cases h1:decide (r.kind<1)||decide (13<r.kind) with
 | true=>rw[h1,D8] at h;cases h
 | false=>
 rw[h1,C8] at h;cases h2:decide (r.lsn<1)||(rNums r).any vu with
 | true=>rw[h2,D8] at h;cases h
 | false=>
 rw[h2,C8] at h;cases h3:fi r with
 | true=>rw[h3,D8] at h;cases h
 | false=>
 rw[h3,C8] at h;simp only[C8];unfold iu at h ⊢;cases h4:decide (dS r.imgs=0) with
 | false=>rw[h4,C8] at h;rw[C7] at h4;exact absurd h h4
 | true=>
 rw[h4,D8] at h;cases h5:decide (65535<(fp r).length) with
 | true=>rw[h5,D8] at h;cases h
 | false=>
 simp only[D8,C8];rw[JO,C7,C7] at h1;rw[JO,C7] at h2;simp only[fi,JO,C7] at h3;rw[C4] at h4;rw[C7] at h5;refine⟨⟨oM,λn hn=>Cg ?_,oM,oM,oM,oM,oM,oM,xq h4,hl⟩,oM,trivial,oM⟩;have:=List.any_eq_false.1 h2.2 n hn;simpa using this
theorem fj{l:List (Int×Int)}{p:Int×Int}(h:p∈l):p.1∈prs l/\p.2∈prs l:=by unfold prs;exact⟨KF.2 ⟨p,h,sI⟩,KF.2 ⟨p,h,sI⟩⟩
theorem DA{r:Rc}(h:Good r)(t:Bs):ten (cu (iR r)++t)=(iR r,(t,0)):=by
 have hn:∀n,n∈[r.lsn,r.prev,r.next,r.redo,r.xid,r.page,r.slot,r.old,r.new]->okN n:=λn hm=>h.nums n (by unfold rNums;simp only[H5];exact .inl (.inl (.inl (.inl (.inl hm)))));have e:cu (iR r)++t=bF r.lsn++(bF r.prev++(bF r.next++(bF r.kind++(bF r.xid++(bF r.page++(bF r.slot++(bF r.old++(bF r.new++(bF r.redo++t))))))))):=by simp[cu,iR]
 have hk:=h.kind;have q:=λn hm t=>fw (hn n hm).1 (hn n hm).2 (Kd _) t;have q0:=q r.lsn sI;have q1:=q r.prev sI;have q2:=q r.next sI
 have q4:=q r.xid sI;have q5:=q r.page sI;have q6:=q r.slot sI;have q7:=q r.old sI;have q8:=q r.new sI;have q9:=q r.redo sI;have q3:∀t,rn 13 (bF r.kind++t,0)=(r.kind,(t,0)):=λt=>fw oM hk.2 oM t;rw[e];simp only[ten,q0,q1,q2,q3,q4,q5,q6,q7,q8,q9]
 rfl
theorem xU{r:Rc}(h:Good r):cz (fp r)=some r:=by
 have e:fp r=cu (iR r)++(iK r.data++(dU r.slots++(dU r.more++(bF (r.imgs.length:Int)++(r.imgs.flatMap sJ++(bF (r.pages.length:Int)++(r.pages.flatMap prB++(bF (r.txns.length:Int)++(r.txns.flatMap prB++[]))))))))):=by simp[fp]
 have hd:=h.data;have hs:=h.slots;have hm:=h.more;have hi:=h.imgs;have hp:=h.pages;have ht:=h.txns;unfold cz;rw[e,DA h];simp only[uZ];rw[BP oM oM];simp only;rw[BO oM oM (λn hn=>h.nums n (by unfold rNums;simp only[H5];exact .inl (.inl (.inl (.inl (.inr hn))))))];simp only;rw[BO oM oM (λn hn=>h.nums n (by unfold rNums;simp only[H5];exact .inl (.inl (.inl (.inr hn)))))];simp only;rw[fw oM oM oM];simp only[H6];rw[te _ _ (λm hm=>⟨h.nums _ (by unfold rNums;simp only[H5];exact .inl (.inl (.inr (E8.2 ⟨m,hm,rfl⟩)))),h.img m hm,h.lsns m hm⟩)];simp only[IW];rw[fw oM oM oM];simp only[H6];rw[nN _ _ (λm hm=>⟨h.nums _ (by unfold rNums;simp only[H5];exact .inl (.inr (fj hm).1)),h.nums _ (by unfold rNums;simp only[H5];exact .inl (.inr (fj hm).2))⟩)];simp only[IW];rw[fw oM oM oM];simp only[H6];rw[nN _ _ (λm hm=>⟨h.nums _ (by unfold rNums;simp only[H5];exact .inr (fj hm).1),h.nums _ (by unfold rNums;simp only[H5];exact .inr (fj hm).2)⟩)]
 rfl
theorem E47:ElemT prog 25 3 1 8:=bG Tryz.underlying25 kR
theorem aN{w:World}{ad:Addr}{l:List Value}{n:Nat}(hl:l.length=n)(h:∀j,j<n->w.cell? (ad.add j)=l[j]?):aI w ad n=some (.agg l.toArray):=by
 have key:∀(m j:Nat),j+m<=n->bC w ad j m=some ((l.drop j).take m):=by
  intro m;induction m with
  | zero=>intro j hj;simp[bC]
  | succ m ih=>intro j hj;have hlt:j<l.length:=oM;have hcell:=h j oM;rw[C6 hlt] at hcell;simp only[bC,hcell,ih (j+1) oM,I2];rw[Jo hlt,List.take_succ_cons]
 unfold aI;rw[key n 0 oM];simp only[J6,I2];rw[G0 oM]
theorem dD{α:Type}{f:α->List Value}{n:Nat}(hf:∀x,(f x).length=n){L:List α}{i:Nat}{x:α}(h:L[i]?=some x){j:Nat}(hj:j<n):(L.flatMap f)[i*n+j]?=(f x)[j]? := by
 induction L generalizing i with
 | nil=>simp at h
 | cons y L ih=>
  rw[G1];cases i with
  | zero=>simp at h;subst h;rw[JX,E7,Jb (by rw[hf];exact hj)]
  | succ i=>rw[I1 (by rw[hf,Nat.succ_mul];omega),hf,Nat.succ_mul];rw[(oM:i*n+n+j - n=i*n+j)];exact ih (by simpa using h)
theorem flat_len{α:Type}{f:α->List Value}{n:Nat}(hf:∀x,(f x).length=n)(L:List α):(L.flatMap f).length=L.length*n:=by
 induction L with
 | nil=>simp
 | cons y L ih=>rw[G1,C5,hf,ih,G2,Nat.succ_mul];omega
theorem gQ{α:Type}{f:α->List Value}{n:Nat}(hf:∀x,(f x).length=n)(hn:0<n){w:World}{v:Value}{L:List α}(h:CellsAt w v L.length n (L.flatMap f)){i:Nat}{x:α}(hx:L[i]?=some x):
  ∃ad,ixV n v (iv i)=some (.pointer (some ad))/\aI w ad n=some (.agg (f x).toArray)/\blockOf v=some ad.block:=by
 obtain⟨ad,h1,h2,h3⟩:=h.at hn (E2.1 hx).1 .i64;exact⟨ad,h1,aN (hf x) (λj hj=>by rw[h3 j hj,dD hf hx hj]),h2⟩
theorem cY{w:World}{e:TypeId}{sz base n:Nat}{l:List Value}(hl:l.length=n*sz)(hb:base<=w.heap.size)(hn:n<=maxLen):(w.alloc (.cells l.toArray e)).ownsRow base e sz (.slice (some ⟨w.heap.size,0,none⟩) n n) n l:=⟨hl,.inr ⟨_,n,l.toArray,rfl,hb,ay _ _,D9 _,hn,by simp[hl],by simp[<- hl]⟩⟩
theorem BL{w:World}{base base':Nat}{e:TypeId}{sz:Nat}{v:Value}{n:Nat}{xs:List Value}(h:w.ownsRow base e sz v n xs)(hb:∀k,v.ownBlock=some k->base'<=k):w.ownsRow base' e sz v n xs:=by
 refine⟨h.1,?_⟩;rcases h.2 with h2|⟨g,cap,cur,rfl,hb',r⟩
 ·exact .inl h2
 ·exact .inr ⟨g,cap,cur,rfl,hb g rfl,r⟩
def pc2(p:Int×Int):List Value:=[iv p.1,iv p.2]
theorem dK(p:Int×Int):(pc2 p).length=2:=rfl
theorem yc(l:List (Int×Int)):l.flatMap pc2=(prs l).map iv:=by
 induction l with
 | nil=>rfl
 | cons p l ih=>rw[G1,ih];rfl
def imC(x:Int×Pg×Value):List Value:=iv x.1::(pcs x.2.1 x.2.2).toList
theorem qO(x:Int×Pg×Value):(imC x).length=7:=rfl
def rcs(r:Rc)(vs vm vi vp vt:Value):Array Value:=#[iv r.lsn,iv r.prev,iv r.next,.int .u8 r.kind,iv r.xid,iv r.page,iv r.slot,iv r.old,iv r.new,iv r.redo,stv r.data,vs,vm,vi,vp,vt]
structure ImAs (w : World) (v : Value) (L : List (Int × Pg)) : Prop where
 ex : ∃ X : List (Int × Pg × Value), X.map (fun x => (x.1, x.2.1)) = L ∧ CellsAt w v X.length 7 (X.flatMap imC) ∧ ∀ x ∈ X, x.2.2.oneCell' = true ∧ PgAs w (pcs x.2.1 x.2.2) x.2.1
theorem ImAs.keep{w w':World}{v:Value}{L:List (Int×Pg)}(h:ImAs w v L)(hf:Fm (λ_=>False) w w'):ImAs w' v L:=by obtain⟨X,h1,h2,h3⟩:=h.ex;exact⟨X,h1,h2.keep hf iT,λx hx=>⟨(h3 x hx).1,(h3 x hx).2.keep hf⟩⟩
theorem ImAs.lenV{w:World}{v:Value}{L:List (Int×Pg)}(h:ImAs w v L):lenV v=some (iv L.length):=by obtain⟨X,h1,h2,h3⟩:=h.ex;rw[<- h1,H2];exact h2.lenV
theorem ImAs.ld{w:World}{v:Value}{L:List (Int×Pg)}(h:ImAs w v L){i:Nat}{m:Int×Pg}(hi:L[i]?=some m):∃ad u,ixV 7 v (iv i)=some (.pointer (some ad))/\aI w ad 7=some (.agg (imC (m.1,m.2,u)).toArray)/\u.oneCell'=true/\PgAs w (pcs m.2 u) m.2:=by obtain⟨X,h1,h2,h3⟩:=h.ex;rw[<- h1,E4,E6] at hi;obtain⟨x,hx,rfl⟩:=hi;obtain⟨ad,q1,q2,_⟩:=gQ qO oM h2 hx;obtain⟨q3,q4⟩:=h3 x (F7 hx);exact⟨ad,x.2.2,q1,q2,q3,q4⟩
structure RcAs (w : World) (cs : Array Value) (r : Rc) : Prop where
 ex : ∃ vs vm vi vp vt, cs = rcs r vs vm vi vp vt ∧ (vs.oneCell' = true ∧ vm.oneCell' = true ∧ vi.oneCell' = true ∧ vp.oneCell' = true ∧ vt.oneCell' = true) ∧ CellsAt w vs r.slots.length 1 (r.slots.map iv) ∧ CellsAt w vm r.more.length 1 (r.more.map iv) ∧ ImAs w vi r.imgs ∧
  CellsAt w vp r.pages.length 2 (r.pages.flatMap pc2) ∧ CellsAt w vt r.txns.length 2 (r.txns.flatMap pc2)
 ins : ∀ n ∈ rNums r, In n
 kin : 0 ≤ r.kind ∧ r.kind ≤ 255
 data : r.data.length ≤ 140737488355328
 bulk : r.slots.length + r.more.length + r.imgs.length + r.pages.length + r.txns.length ≤ 2000000
 lsns : ∀ m ∈ r.imgs, m.2.lsn ≤ 9223372036854775807
theorem RcAs.keep{w w':World}{cs:Array Value}{r:Rc}(h:RcAs w cs r)(hf:Fm (λ_=>False) w w'):RcAs w' cs r:=by obtain⟨vs,vm,vi,vp,vt,h1,h2,h3,h4,h5,h6,h7⟩:=h.ex;exact⟨⟨vs,vm,vi,vp,vt,h1,h2,h3.keep hf iT,h4.keep hf iT,h5.keep hf,h6.keep hf iT,h7.keep hf iT⟩,h.ins,h.kin,h.data,h.bulk,h.lsns⟩
theorem RcAs.size{w:World}{cs:Array Value}{r:Rc}(h:RcAs w cs r):cs.size=16:=by obtain⟨vs,vm,vi,vp,vt,rfl,_⟩:=h.ex;rfl
theorem RcAs.one{w:World}{cs:Array Value}{r:Rc}(h:RcAs w cs r):∀u∈cs.toList,u.oneCell'=true:=by obtain⟨vs,vm,vi,vp,vt,rfl,⟨h1,h2,h3,h4,h5⟩,_⟩:=h.ex;intro u hu;simp[rcs] at hu;rcases hu with rfl|rfl|rfl|rfl|rfl|rfl|rfl|rfl|rfl|rfl|rfl|rfl|rfl|rfl|rfl|rfl<;>first|rfl|assumption
structure RB (w : World) (g : Nat) (r : Rc) (vs vm vi vp vt : Value) : Prop where
 h : w.heap[g]? = some (.cells (rcs r vs vm vi vp vt) 168)
section
variable{S:Nat->Prop}{w w':World}{g:Nat}{r:Rc}{vs vm vi vp vt:Value}
theorem RB.keep(h:RB w g r vs vm vi vp vt)(hf:Fm S w w')(hs:¬S g):RB w' g r vs vm vi vp vt:=⟨hf.heap h.h hs⟩
theorem RB.c0(h:RB w g r vs vm vi vp vt):w.cell? ⟨g,0,none⟩=some (iv r.lsn):=by rw[ab h.h];rfl
theorem RB.c1(h:RB w g r vs vm vi vp vt):w.cell? ⟨g,1,none⟩=some (iv r.prev):=by rw[ab h.h];rfl
theorem RB.c2(h:RB w g r vs vm vi vp vt):w.cell? ⟨g,2,none⟩=some (iv r.next):=by rw[ab h.h];rfl
theorem RB.c3(h:RB w g r vs vm vi vp vt):w.cell? ⟨g,3,none⟩=some (.int .u8 r.kind):=by rw[ab h.h];rfl
theorem RB.c4(h:RB w g r vs vm vi vp vt):w.cell? ⟨g,4,none⟩=some (iv r.xid):=by rw[ab h.h];rfl
theorem RB.c5(h:RB w g r vs vm vi vp vt):w.cell? ⟨g,5,none⟩=some (iv r.page):=by rw[ab h.h];rfl
theorem RB.c6(h:RB w g r vs vm vi vp vt):w.cell? ⟨g,6,none⟩=some (iv r.slot):=by rw[ab h.h];rfl
theorem RB.c7(h:RB w g r vs vm vi vp vt):w.cell? ⟨g,7,none⟩=some (iv r.old):=by rw[ab h.h];rfl
theorem RB.c8(h:RB w g r vs vm vi vp vt):w.cell? ⟨g,8,none⟩=some (iv r.new):=by rw[ab h.h];rfl
theorem RB.c9(h:RB w g r vs vm vi vp vt):w.cell? ⟨g,9,none⟩=some (iv r.redo):=by rw[ab h.h];rfl
theorem RB.c10(h:RB w g r vs vm vi vp vt):w.cell? ⟨g,10,none⟩=some (stv r.data):=by rw[ab h.h];rfl
theorem RB.A2(h:RB w g r vs vm vi vp vt):w.cell? ⟨g,11,none⟩=some vs:=by rw[ab h.h];rfl
theorem RB.c12(h:RB w g r vs vm vi vp vt):w.cell? ⟨g,12,none⟩=some vm:=by rw[ab h.h];rfl
theorem RB.c13(h:RB w g r vs vm vi vp vt):w.cell? ⟨g,13,none⟩=some vi:=by rw[ab h.h];rfl
theorem RB.c14(h:RB w g r vs vm vi vp vt):w.cell? ⟨g,14,none⟩=some vp:=by rw[ab h.h];rfl
theorem RB.c15(h:RB w g r vs vm vi vp vt):w.cell? ⟨g,15,none⟩=some vt:=by rw[ab h.h];rfl
theorem RB.all(h:RB w g r vs vm vi vp vt):aI w ⟨g,0,none⟩ 16=some (.agg (rcs r vs vm vi vp vt)):=aa h.h rfl
theorem RB.lt(h:RB w g r vs vm vi vp vt):g<w.heap.size:=aj h.h
end
structure WS (w0 w : World) (r : Nat) (B : Bs) : Prop where
 ex : ∃ v, w.heap[r]? = some (.cells #[v] 391) ∧ w.ownsRow w0.heap.size 5 1 v B.length (bc B)
 fm : Fm (fun _ => False) w0 w
 ge : w0.heap.size ≤ r
theorem WS.wr{w0 w:World}{r:Nat}{B:Bs}(h:WS w0 w r B):WrAt w r B/\∀y,wrM w r y->w0.heap.size<=y/\y<w.heap.size:=by
 obtain⟨v,hv,ho⟩:=h.ex;refine⟨⟨v,hv,aU ho (Jd _)⟩,?_⟩;rintro y (rfl|⟨v',hv',hy⟩)
 ·exact⟨h.ge,aj hv⟩
 ·rw[hv] at hv';cases hv';exact aP ho y hy
theorem WS.of{w0 w w':World}{r:Nat}{B B':Bs}{S:Nat->Prop}(h:WS w0 w r B)(h':WrAt w' r B')(hf:Fm S w w')(hS:∀y,S y->w0.heap.size<=y)(hM:∀y,wrM w' r y->wrM w r y\/w.heap.size<=y):WS w0 w' r B':=by
 obtain⟨v,hv,ho⟩:=h'.ex;have hz:=h.fm.size;refine⟨⟨v,hv,BL ho (λk hk=>?_)⟩,Fm.own h.fm hf hS,h.ge⟩;rcases hM k (.inr ⟨v,hv,hk⟩) with e|e
 ·exact(h.wr.2 k e).1
 ·omega
theorem WS.keep{w0 w w':World}{r:Nat}{B:Bs}(h:WS w0 w r B)(hf:Fm (λ_=>False) w w'):WS w0 w' r B:=by obtain⟨v,hv,ho⟩:=h.ex;exact⟨⟨v,hf.heap hv id,ah ho hf (λ_ _ _ _ e=>e)⟩,Fmf h.fm hf,h.ge⟩
theorem WS.new{w0 w:World}(hf:Fm (λ_=>False) w0 w){k:KV}(hk:∀w' r,WS w0 w' r []->Fm (λ_=>False) w w'->k (pv r) w'):Cl prog 247 [] w k:=by refine(wB w).mono ?_;rintro _ w' ⟨rfl,h1,h2,h3⟩;have hz:=hf.size;obtain⟨v,hv,ho⟩:=h1.ex;refine hk w' _ ⟨⟨v,hv,BL ho (λk hk=>?_)⟩,Fmf hf h3,hz⟩ h3;have:=h2 k (.inr ⟨v,hv,hk⟩);omega
theorem WS.num{w0 w:World}{r:Nat}{B:Bs}(h:WS w0 w r B){v:Value}{ns:List Int}(hns:CellsAt w v ns.length 1 (ns.map iv))(hb:ns≠[]->∀g,blockOf v=some g->g<w0.heap.size)(hin:∀n∈ns,n<=9223372036854775807)(hl:B.length+9*ns.length<=1000000000000){k:KV}
  (hk:∀u w',WS w0 w' r (B++cu ns)->k u w'):Cl prog 248 [pv r,v] w k:=by
 obtain⟨hw,hm⟩:=h.wr;refine(qg hw hns (λhne g hg e=>by have:=hb hne g hg;have:=(hm g e).1;omega) hin hl).mono ?_;rintro u w' ⟨h1,h2,h3⟩;exact hk u w' (h.of h1 h2 (λy hy=>(hm y hy).1) h3)
theorem WS.lit{w0 w:World}{r n:Nat}{B:Bs}(h:WS w0 w r B){ns:List Int}{items:Array (Nat×Value)}(hb:(Instr.buildSlice 25 n items).run prog w=.ok (.slice (some ⟨w.heap.size,0,none⟩) n n) (w.alloc (.cells (ns.map iv).toArray 3)))(hn:ns.length=n)(hin:∀n∈ns,n<=9223372036854775807)(hl:B.length+9*n<=1000000000000){k:KV}
  (hk:∀u w',WS w0 w' r (B++cu ns)->k u w'):RunS prog (Instr.buildSlice 25 n items) w λt w1=>Cl prog 248 [pv r,t] w1 k:=by
 refine ag hb ?_;subst hn;have hf:=Fm.alloc (λ_=>False) w (.cells (ns.map iv).toArray 3);have ho:=cY (w:=w) (e:=3) (sz:=1) (base:=w.heap.size) (n:=ns.length) (l:=ns.map iv) sI (D9 _) (by unfold maxLen;omega);have h1:=h.keep hf;obtain⟨hw,hm⟩:=h.wr;generalize w.alloc (.cells (ns.map iv).toArray 3)=w1 at hf ho h1;obtain⟨hw1,hm1⟩:=h1.wr;have hsame:∀y,wrM w1 r y->y<w.heap.size:=λy hy=>by obtain⟨_,e⟩:=hw.keep hf iT;exact hw.lt y ((e y).1 hy)
 refine(qg hw1 (CellsAt.aT ho) (λhne g hg e=>?_) hin hl).mono ?_
 ·have h0:=hsame g e;have h1:g=w.heap.size:=(I6 hg).symm;omega
 ·rintro u w' ⟨g1,g2,g3⟩;exact hk u w' (h1.of g1 g2 (λy hy=>(hm1 y hy).1) g3)
theorem dA(a:Int)(w:World):(Instr.buildSlice 25 1 #[(0,iv a)]).run prog w=.ok (.slice (some ⟨w.heap.size,0,none⟩) 1 1) (w.alloc (.cells ([a].map iv).toArray 3)):=kR
theorem ot(a b:Int)(w:World):(Instr.buildSlice 25 2 #[(0,iv a),(1,iv b)]).run prog w=.ok (.slice (some ⟨w.heap.size,0,none⟩) 2 2) (w.alloc (.cells ([a,b].map iv).toArray 3)):=kR
theorem EF(a b c d e f g h i:Int)(w:World):(Instr.buildSlice 25 9 #[(0,iv a),(1,iv b),(2,iv c),(3,iv d),(4,iv e),(5,iv f),(6,iv g),(7,iv h),(8,iv i)]).run prog w=.ok (.slice (some ⟨w.heap.size,0,none⟩) 9 9) (w.alloc (.cells ([a,b,c,d,e,f,g,h,i].map iv).toArray 3)):=kR
theorem Cm(a b c d e f g h i j:Int)(w:World):(Instr.buildSlice 25 10 #[(0,iv a),(1,iv b),(2,iv c),(3,iv d),(4,iv e),(5,iv f),(6,iv g),(7,iv h),(8,iv i),(9,iv j)]).run prog w=.ok (.slice (some ⟨w.heap.size,0,none⟩) 10 10) (w.alloc (.cells ([a,b,c,d,e,f,g,h,i,j].map iv).toArray 3)):=kR
theorem jl(a:Int):cu [a]=bF a:=by simp[cu]
theorem aK{n:Int}(h:n<=9223372036854775807):(bF n).length<=9:=by unfold bF;exact(xa oM).2
theorem ig:∀{l:List Int},(∀n∈l,n<=9223372036854775807)->(cu l).length<=9*l.length
 | [],_=>by simp[cu]
 | n::l,h=>by have:=ig (l:=l) (λm hm=>h m (by simp[hm]));have:=aK (h n sI);unfold cu at *;rw[G1,C5,G2];omega
theorem WS.text{w0 w:World}{r:Nat}{B:Bs}(h:WS w0 w r B){s:Bs}(hs:s.length<=1000000)(hl:B.length+9+s.length<=1000000000){k:KV}(hk:∀u w',WS w0 w' r (B++iK s)->k u w'):Cl prog 380 [pv r,stv s] w k:=by
 refine c380 ?_;simp only[RS,aq];refine h.lit (dA _ _) rfl (by intro n hn;simp at hn;omega) oM ?_;intro u w1 h1;rw[jl] at h1;obtain⟨v,hv,ho⟩:=h1.ex;have c0:w1.cell? ⟨r,0,none⟩=some v:=by rw[ab hv];rfl
 have hel:=aK (n:=s.length) oM;have hz:=h1.fm.size;simp only[RS,c0];obtain⟨v',w2,hr2,ho2,hf2,_⟩:=gr B38 ho s 57 (by rw[C5];omega) hz;refine ag hr2 ?_;have hne:v.ownBlock≠some r:=λe=>by
  rcases ho.2 with⟨rfl,_⟩|⟨g,cap,cur,rfl,_,hg,_⟩
  ·cases e
  ·have:g=r:=by simpa[Value.ownBlock] using e
   subst this;rw[hv] at hg;cases hg
 have hlt:=aP ho;refine au (hf2.heap hv hne) (by show 0<1;decide) (az ho2) ?_;intro w3 hw3 hs3 hf3
 replace hw3:w3.heap[r]?=some (.cells #[v'] 391):=hw3
 have ho3:w3.ownsRow w0.heap.size 5 1 v' _ _:=ah ho2 hf3 (λg _ _ hg e=>by
  rcases ho2.2 with⟨rfl,_⟩|⟨g',cap,cur,rfl,_,hgg,_⟩
  ·cases hg
  ·have e1:g'=g:=by simpa[Value.ownBlock] using hg
   rw[e1,e] at hgg;rw[hf2.heap hv hne] at hgg;cases hgg)
 refine hk _ _ ⟨⟨v',hw3,?_⟩,Fm.own (Fm.own h1.fm hf2 (λy hy=>(hlt y hy).1)) hf3 (by rintro y rfl;exact h1.ge),h1.ge⟩;have e1:(B++iK s)=(B++bF s.length)++s:=by simp[iK]
 rw[e1];have e2:((B++bF s.length)++s).length=(B++bF s.length).length+s.length:=C5;rw[e2];exact ho3
theorem EM(l:List Int):∀u∈l.map iv,u.oneCell'=true:=by
 intro u hu;obtain⟨n,_,rfl⟩:=E8.1 hu
 rfl
theorem rD{w:World}{b0:Nat}{lv v:Value}{L ns:List Int}(ho:w.ownsRow b0 3 1 lv L.length (L.map iv))(hc:CellsAt w v ns.length 1 (ns.map iv))(hl:L.length+ns.length<=100000000)(hb:b0<=w.heap.size):
  ∃v' w',(Builtin.append_ #[25,25] 25 #[lv,v]).run prog w=.ok v' w'/\w'.ownsRow b0 3 1 v' (L++ns).length ((L++ns).map iv)/\Fm (λy=>b0<=y) w w':=by
 obtain⟨v',w',hr,ho',hf⟩:=cC E47 oM ho hc (EM ns) 25 (by unfold maxLen;omega) oM hb;refine⟨v',w',hr,?_,hf.mono (λy _ e=>(aP ho y e).1)⟩;rw[C5,Kg];exact ho'
theorem nL{w:World}{b0 n:Nat}{lv:Value}{L ns:List Int}{items:Array (Nat×Value)}(ho:w.ownsRow b0 3 1 lv L.length (L.map iv))(hbs:(Instr.buildSlice 25 n items).run prog w=.ok (.slice (some ⟨w.heap.size,0,none⟩) n n) (w.alloc (.cells (ns.map iv).toArray 3)))(hn:ns.length=n)(hl:L.length+n<=100000000)(hb:b0<=w.heap.size){k:KV}
  (hk:∀v' w',w'.ownsRow b0 3 1 v' (L++ns).length ((L++ns).map iv)->Fm (λy=>b0<=y) w w'->k v' w'):RunS prog (Instr.buildSlice 25 n items) w λt w1=>RunS prog (Builtin.append_ #[25,25] 25 #[lv,t]) w1 k:=by
 refine ag hbs ?_;subst hn;have hf:=Fm.alloc (λ_=>False) w (.cells (ns.map iv).toArray 3);have hnew:=cY (w:=w) (e:=3) (sz:=1) (base:=w.heap.size) (n:=ns.length) (l:=ns.map iv) sI (D9 _) (by unfold maxLen;omega);have ho1:=ah ho hf (λ_ _ _ _ e=>e);have hz:=hf.size;generalize w.alloc (.cells (ns.map iv).toArray 3)=w1 at hf hnew ho1 hz;obtain⟨v',w',hr,ho',hf'⟩:=rD ho1 (CellsAt.aT hnew) hl oM;exact ag hr (hk v' w' ho' ((hf.mono (λ_ _ e=>e.elim)).trans hf' (λ_ _ e=>e) (λ_ _ e=>e)))
theorem px{w:World}{cs:Array Value}{r:Rc}(h:RcAs w cs r):Cl prog 324 [.agg cs] w λv w'=>w'.ownsRow w.heap.size 3 1 v (rNums r).length ((rNums r).map iv)/\Fm (λ_=>False) w w':=by
 obtain⟨vs,vm,vi,vp,vt,hcs,_,hs,hm,hi,hp,ht⟩:=h.ex;have hbulk:=h.bulk;refine c324 ?_;refine ae ?_;intro x1 w1 hx1 hs1 hw1 hf1;have hR1:RB w1 x1 r vs vm vi vp vt:=⟨by rw[<- hcs];exact hw1⟩;have hz1:=hf1.size;simp only[RS,hR1.c0,hR1.c1,hR1.c2,hR1.c4,hR1.c5,hR1.c6,hR1.c7,hR1.c8,hR1.c9];refine ag (EF _ _ _ _ _ _ _ _ _ _) ?_;have hf2:=Fm.alloc (λ_=>False) w1 (.cells ([r.lsn,r.prev,r.next,r.redo,r.xid,r.page,r.slot,r.old,r.new].map iv).toArray 3);have ho2:=cY (w:=w1) (e:=3) (sz:=1) (base:=w1.heap.size) (n:=9) (l:=[r.lsn,r.prev,r.next,r.redo,r.xid,r.page,r.slot,r.old,r.new].map iv) sI (D9 _) (by simp[maxLen]);have hL:rNums r=[r.lsn,r.prev,r.next,r.redo,r.xid,r.page,r.slot,r.old,r.new]++r.slots++r.more++r.imgs.map (·.1)++prs r.pages++prs r.txns:=rfl;have h9:([r.lsn,r.prev,r.next,r.redo,r.xid,r.page,r.slot,r.old,r.new]:List Int).length=9:=rfl;rw[hL]
 replace ho2:(w1.alloc (.cells ([r.lsn,r.prev,r.next,r.redo,r.xid,r.page,r.slot,r.old,r.new].map iv).toArray 3)).ownsRow w1.heap.size 3 1 (.slice (some ⟨w1.heap.size,0,none⟩) 9 9) ([r.lsn,r.prev,r.next,r.redo,r.xid,r.page,r.slot,r.old,r.new]:List Int).length ([r.lsn,r.prev,r.next,r.redo,r.xid,r.page,r.slot,r.old,r.new].map iv):=ho2
 generalize w1.alloc (.cells ([r.lsn,r.prev,r.next,r.redo,r.xid,r.page,r.slot,r.old,r.new].map iv).toArray 3)=w2 at hf2 ho2;generalize ([r.lsn,r.prev,r.next,r.redo,r.xid,r.page,r.slot,r.old,r.new]:List Int)=L9 at ho2 h9;have hf3:=Fm.drew (λ_=>False) w2;have hR2:=hR1.keep hf2 id;have hR3:=hR2.keep hf3 id;refine⟨λw'=>w'.cell? ⟨x1,12,none⟩=some vm,hR3.c12,?_⟩;simp only[RS,hR2.A2,JF];refine⟨vm,λw9 h9=>?_,?_⟩
 ·simp only[RS,h9];trivial
 have ho3:=ah ho2 hf3 (λ_ _ _ _ e=>e);have hF3:=Fmf hf2 hf3;generalize w2.drew=w3 at hf3 hR3 ho3 hF3;have hz3:=hF3.size;obtain⟨v4,w4,hr4,ho4,hf4⟩:=rD ho3 (hs.keep (Fmf hf1 hF3) iT) oM hz3;have hx1lt:=hR1.lt;have hF4:Fm (λ_=>False) w1 w4:=Fm.own hF3 hf4 (λy e=>e);have hR4:=hR1.keep hF4 id;have hz4:=hF4.size;refine ag hr4 ⟨hR4.c12,?_⟩;obtain⟨v5,w5,hr5,ho5,hf5⟩:=rD ho4 (hm.keep (Fmf hf1 hF4) iT) (by rw[C5];omega) hz4;have hF5:Fm (λ_=>False) w1 w5:=Fm.own hF4 hf5 (λy e=>e);have hR5:=hR1.keep hF5 id;have hz5:=hF5.size;refine ag hr5 ?_;have hi5:=hi.keep (Fmf hf1 hF5);have hl5:(L9++r.slots++r.more).length<=2000009:=by simp only[C5];omega
 generalize L9++r.slots++r.more=L5 at ho5 hl5;simp only[RS,hR5.c13,hi5.lenV];refine⟨λvs w'=>∃(i:Nat) (lv:Value),vs=[lv,iv i]/\i<=r.imgs.length/\w'.ownsRow w1.heap.size 3 1 lv (L5++(r.imgs.take i).map (·.1)).length ((L5++(r.imgs.take i).map (·.1)).map iv)/\Fm (λ_=>False) w1 w',λvs _=>(r.imgs.length - nth vs 1).toNat,⟨0,v5,rfl,oM,by simpa using ho5,hF5⟩,?_⟩;rintro _ w6 lv iv6 ⟨i,lv',hvs,hile,ho6,hF6⟩;cases hvs;have hz6:=hF6.size;have hti:((r.imgs.take i).map (·.1)).length=i:=by rw[H2,E5];omega
 by_cases hlt:i<r.imgs.length
 ·have hx:r.imgs[i]?=some r.imgs[i]:=C6 hlt;generalize r.imgs[i]=m at hx;obtain⟨ad,u,hix,hcv,hone,hpg⟩:=(hi.keep (Fmf hf1 hF6)).ld hx;have d1:decide ((i:Int)<(r.imgs.length:Int))=true:=by rw[C4];omega
  have e1:IntKind.i64.wrap ((i:Int)+1)=((i+1:Nat):Int):=by rw[af]<;>omega
  simp only[RS,d1,hix,hcv];refine ae ?_;intro x7 w7 hx7 hs7 hw7 hf7;refine ao hw7 rfl (qO _) (by intro q hq;simp[imC,pcs] at hq;rcases hq with rfl|rfl|rfl|rfl|rfl|rfl|rfl<;>first|rfl|exact hone) ?_;intro w8 hw8 hs8 hf8;have hf68:Fm (λ_=>False) w6 w8:=Fm.own hf7 hf8 (by rintro y rfl;omega);have ho8:=ah ho6 hf68 (λ_ _ _ _ e=>e);have c8:w8.cell? ⟨x7,0,none⟩=some (iv m.1):=by rw[ab hw8];rfl
  have hF8:=Fmf hF6 hf68;have hz8:=hF8.size;simp only[RS,c8];refine nL ho8 (dA _ _) rfl (by rw[C5,hti];omega) hz8 ?_;intro v9 w9 ho9 hf9;simp only[RS,e1];refine⟨⟨i+1,v9,rfl,oM,?_,Fm.own hF8 hf9 (λy e=>e)⟩,by simp only[cK];omega⟩;have e2:L5++(r.imgs.take (i+1)).map (·.1)=L5++(r.imgs.take i).map (·.1)++[m.1]:=by rw[H8,hx];simp
  rw[e2];exact ho9
 ·have hie:i=r.imgs.length:=oM;subst hie;have d1:decide (((r.imgs.length:Nat):Int)<(r.imgs.length:Int))=false:=sI;rw[IX] at ho6;have hl6:(L5++r.imgs.map (·.1)).length<=4000009:=by rw[C5,H2];omega
  generalize L5++r.imgs.map (·.1)=L6 at ho6 hl6;have hR6:=hR1.keep hF6 id;have hp6:=hp.keep (Fmf hf1 hF6) iT;simp only[RS,d1,hR6.c14,hp6.lenV];refine⟨λvs w'=>∃(i:Nat) (lv:Value),vs=[lv,iv i]/\i<=r.pages.length/\w'.ownsRow w1.heap.size 3 1 lv (L6++prs (r.pages.take i)).length ((L6++prs (r.pages.take i)).map iv)/\Fm (λ_=>False) w1 w',λvs _=>(r.pages.length - nth vs 1).toNat,⟨0,lv,rfl,oM,by simpa[prs] using ho6,hF6⟩,?_⟩;rintro _ w7 lv iv7 ⟨i,lv',hvs,hile,ho7,hF7⟩;cases hvs;have hz7:=hF7.size;have hti:(prs (r.pages.take i)).length=i*2:=by have:=IR List.length (yc (r.pages.take i));rw[H2,flat_len dK,E5,JL hile] at this;omega
  by_cases hlt:i<r.pages.length
  ·have hx:r.pages[i]?=some r.pages[i]:=C6 hlt;generalize r.pages[i]=m at hx;obtain⟨ad,hix,hcv,_⟩:=gQ dK oM (hp.keep (Fmf hf1 hF7) iT) hx;have d1:decide ((i:Int)<(r.pages.length:Int))=true:=by rw[C4];omega
   have e1:IntKind.i64.wrap ((i:Int)+1)=((i+1:Nat):Int):=by rw[af]<;>omega
   simp only[RS,d1,hix,hcv];refine ae ?_;intro x8 w8 hx8 hs8 hw8 hf8;refine ao hw8 rfl (dK _) (by intro q hq;simp[pc2] at hq;rcases hq with rfl|rfl<;>rfl) ?_;intro w9 hw9 hs9 hf9;have hf79:Fm (λ_=>False) w7 w9:=Fm.own hf8 hf9 (by rintro y rfl;omega);have ho9:=ah ho7 hf79 (λ_ _ _ _ e=>e);have c0:w9.cell? ⟨x8,0,none⟩=some (iv m.1):=by rw[ab hw9];rfl
   have c1:w9.cell? ⟨x8,1,none⟩=some (iv m.2):=by rw[ab hw9];rfl
   have hF9:=Fmf hF7 hf79;have hz9:=hF9.size;simp only[RS,c0,c1];refine nL ho9 (ot _ _ _) rfl (by rw[C5,hti];omega) hz9 ?_;intro v10 w10 ho10 hf10;simp only[RS,e1];refine⟨⟨i+1,v10,rfl,oM,?_,Fm.own hF9 hf10 (λy e=>e)⟩,by simp only[cK];omega⟩;have e2:L6++prs (r.pages.take (i+1))=L6++prs (r.pages.take i)++[m.1,m.2]:=by rw[H8,hx];simp[prs]
   rw[e2];exact ho10
  ·have hie:i=r.pages.length:=oM;subst hie;have d1:decide (((r.pages.length:Nat):Int)<(r.pages.length:Int))=false:=sI;rw[IX] at ho7 hti;have hl7:(L6++prs r.pages).length<=8000009:=by rw[C5,hti];omega
   generalize L6++prs r.pages=L7 at ho7 hl7;have hR7:=hR1.keep hF7 id;have ht7:=ht.keep (Fmf hf1 hF7) iT;simp only[RS,d1,hR7.c15,ht7.lenV];refine⟨λvs w'=>∃(i:Nat) (lv:Value),vs=[lv,iv i]/\i<=r.txns.length/\w'.ownsRow w1.heap.size 3 1 lv (L7++prs (r.txns.take i)).length ((L7++prs (r.txns.take i)).map iv)/\Fm (λ_=>False) w1 w',λvs _=>(r.txns.length - nth vs 1).toNat,⟨0,lv,rfl,oM,by simpa[prs] using ho7,hF7⟩,?_⟩;rintro _ w8 lv iv8 ⟨i,lv',hvs,hile,ho8,hF8⟩;cases hvs;have hz8:=hF8.size;have hti:(prs (r.txns.take i)).length=i*2:=by have:=IR List.length (yc (r.txns.take i));rw[H2,flat_len dK,E5,JL hile] at this;omega
   by_cases hlt:i<r.txns.length
   ·have hx:r.txns[i]?=some r.txns[i]:=C6 hlt;generalize r.txns[i]=m at hx;obtain⟨ad,hix,hcv,_⟩:=gQ dK oM (ht.keep (Fmf hf1 hF8) iT) hx;have d1:decide ((i:Int)<(r.txns.length:Int))=true:=by rw[C4];omega
    have e1:IntKind.i64.wrap ((i:Int)+1)=((i+1:Nat):Int):=by rw[af]<;>omega
    simp only[RS,d1,hix,hcv];refine ae ?_;intro x9 w9 hx9 hs9 hw9 hf9;refine ao hw9 rfl (dK _) (by intro q hq;simp[pc2] at hq;rcases hq with rfl|rfl<;>rfl) ?_;intro w10 hw10 hs10 hf10;have hf810:Fm (λ_=>False) w8 w10:=Fm.own hf9 hf10 (by rintro y rfl;omega);have ho10:=ah ho8 hf810 (λ_ _ _ _ e=>e);have c0:w10.cell? ⟨x9,0,none⟩=some (iv m.1):=by rw[ab hw10];rfl
    have c1:w10.cell? ⟨x9,1,none⟩=some (iv m.2):=by rw[ab hw10];rfl
    have hF10:=Fmf hF8 hf810;have hz10:=hF10.size;simp only[RS,c0,c1];refine nL ho10 (ot _ _ _) rfl (by rw[C5,hti];omega) hz10 ?_;intro v11 w11 ho11 hf11;simp only[RS,e1];refine⟨⟨i+1,v11,rfl,oM,?_,Fm.own hF10 hf11 (λy e=>e)⟩,by simp only[cK];omega⟩;have e2:L7++prs (r.txns.take (i+1))=L7++prs (r.txns.take i)++[m.1,m.2]:=by rw[H8,hx];simp[prs]
    rw[e2];exact ho11
   ·have hie:i=r.txns.length:=oM;subst hie;have d1:decide (((r.txns.length:Nat):Int)<(r.txns.length:Int))=false:=sI;rw[IX] at ho8;simp only[RS,d1];exact⟨aU ho8 oM,Fmf hf1 hF8⟩
theorem zH(w:World)(n:Int):Cl prog 325 [iv n] w λv w'=>v=.bool (vu n)/\w'=w:=by
 refine c325 ?_;unfold vu;simp only[RS];cases h1:decide (n<0) with
 | true=>simp only[RS,Jv];exact⟨tV,tV⟩
 | false=>simp only[RS,Jf];exact⟨tV,tV⟩
theorem nj{w:World}{v:Value}{L:List Int}(h:CellsAt w v L.length 1 (L.map iv)):Cl prog 103 [v,.func (.func 325) #[] #[]] w λu w'=>u=.bool (L.any vu)/\w'=w:=by
 have hlt:=h.lt;unfold maxLen at hlt;have key:Cl prog 101 [v,.func (.func 325) #[] #[]] w λu w'=>∃i:Int,u=iv i/\decide (0<=i)=L.any vu/\w'=w:=by
  refine c101 ?_;simp only[RS,h.lenV];refine⟨λvs w2=>∃i:Nat,vs=[iv i]/\i<=L.length/\(L.take i).any vu=false/\w2=w,λvs _=>(L.length - nth vs 0).toNat,⟨0,rfl,oM,rfl,rfl⟩,?_⟩;rintro _ w2 ivv ⟨i,hvs,hi,hno,rfl⟩;cases hvs;by_cases hl:i<L.length
  ·have e1:decide ((i:Int)<(L.length:Int))=true:=by rw[C4];omega
   have e2:IntKind.i64.wrap ((i:Int)+1)=((i+1:Nat):Int):=by rw[af]<;>omega
   have hx:L[i]?=some L[i]:=C6 hl;generalize L[i]=n at hx;obtain⟨ad,hix,_,hc⟩:=h.iS (i:=i) (x:=iv n) (by rw[E4,hx];rfl) .i64;simp only[RS,e1,hix,hc];refine ax kR ?_;refine(zH w2 n).mono ?_;rintro _ w3 ⟨rfl,rfl⟩;cases hb:vu n with
   | true=>simp only[RS];refine⟨i,tV,?_,tV⟩;rw[C9 oM];exact(List.any_eq_true.2 ⟨n,F7 hx,hb⟩).symm
   | false=>simp only[RS,e2];refine⟨⟨i+1,rfl,oM,?_,tV⟩,by simp only[ba];omega⟩;rw[H8,hx,List.any_append,hno];simp[hb]
  ·have hie:i=L.length:=oM;subst hie;have e1:decide (((L.length:Nat):Int)<(L.length:Int))=false:=sI;rw[IX] at hno;simp only[RS,e1];exact⟨-1,tV,by rw[hno];rfl,tV⟩
 refine c103 ?_;refine key.mono ?_;rintro _ w2 ⟨i,rfl,hi,rfl⟩;simp only[RS,hi];exact⟨tV,tV⟩
theorem vc{t:Bs}{b:UInt8}(h:t[t.length - 1]?=some b):iB t=bif decide (b=0) then iB (t.take (t.length - 1)) else t:=by
 have hl:=(E2.1 h).1;have ht:t=t.take (t.length - 1)++[b]:=by have:=JM (t.length - 1) t;rw[Jo hl,(E2.1 h).2,(oM:t.length - 1+1=t.length),List.drop_length] at this;exact this.symm
 generalize t.take (t.length - 1)=s at ht;subst ht;unfold iB;rw[List.reverse_append,List.reverse_singleton,List.singleton_append,List.dropWhile_cons];cases hb:decide (b=0) with
 | true=>
  rw[C4] at hb;subst hb
  rfl
 | false=>rw[C7] at hb;rw[IT (by simpa using hb)];simp
theorem vd(w:World)(s:Bs)(hs:s.length<=1000000):Cl prog 381 [stv s,stv [0]] w λv w'=>v=stv (iB s)/\w'=w:=by
 refine c381 ?_;have e0:decide (([0]:Bs)=[])=false:=dC;simp only[RS,cN,br,e0];cases hn:decide (s=[]) with
 | true=>rw[C4] at hn;subst hn;simp only[RS];exact⟨tV,tV⟩
 | false=>
 have e1:bW (stv [0])=some (iv 1):=rfl;have e2:ixS (stv [0]) (Value.int .i64 0)=some (.int .u8 0):=rfl;have e3:decide ((0:Int)<128)=true:=dC;have e4:(((str ([0]:Bs)).size:Int) == 1)=true:=rfl;have e5:decide (str ([0]:Bs)=str [])=false:=by rw[C7,br];decide
 simp only[RS,e2,e3,e4];refine c395 ?_;refine⟨λvs w2=>∃t:Bs,vs=[stv t]/\t.length<=s.length/\iB t=iB s/\w2=w,λvs _=>match vs with
  | [.string b]=>b.size
  | _=>0,⟨s,rfl,D9 _,rfl,rfl⟩,?_⟩
 rintro _ w2 tv ⟨t,hvs,hl,htr,rfl⟩;cases hvs;simp only[RS,aq];by_cases h0:0<t.length
 ·have d1:decide ((0:Int)<(t.length:Int))=true:=by rw[C4];omega
  have e5:IntKind.i64.wrap ((t.length:Int) - 1)=((t.length - 1:Nat):Int):=by rw[af]<;>omega
  have hx:t[t.length - 1]?=some t[t.length - 1]:=C6 oM;generalize t[t.length - 1]=b at hx;have hlast:=vc hx;have e6:=iU hx .i64;have e7:((b.toNat:Int) == 0)=decide (b=0):=by
   rw[aV,G9];constructor
   ·intro e;exact UInt8.toNat_inj.1 (by simpa using (oM:b.toNat=0))
   ·rintro rfl;rfl
  have e8:=gl (l:=t) (i:=t.length - 1) oM .i64;simp only[RS,d1,e5,e6,e7];cases hb:decide (b=0) with
  | true=>rw[hb,D8] at hlast;simp only[RS,aq,e8];refine⟨⟨t.take (t.length - 1),rfl,by rw[E5];omega,by rw[<- hlast];exact htr,tV⟩,?_⟩;simp only[E5];omega
  | false=>rw[hb,C8] at hlast;simp only[RS];exact⟨by rw[<- htr,hlast],tV⟩
 ·have ht0:t=[]:=H0 oM;subst ht0;have d1:decide ((0:Int)<(([]:Bs).length:Int))=false:=dC;simp only[RS,d1];exact⟨by rw[<- htr];rfl,tV⟩
theorem Ev(a1 a2:Option Addr)(n1 c1 n2 c2:Nat)(w:World):(Instr.build 441 #[(0,.slice a1 n1 c1),(1,.slice a2 n2 c2)]).run prog w=.ok (.agg #[.slice a1 n1 c1,.slice a2 n2 c2]) w:=kR
theorem CE{w:World}{x:Nat}{m:Int}{p:Pg}{u:Value}(h:w.heap[x]?=some (.cells (imC (m,p,u)).toArray 233)):aI w ⟨x,1,none⟩ 6=some (.agg (pcs p u)):=by refine aN (l:=(pcs p u).toList) rfl (λj hj=>?_);have:j=0\/j=1\/j=2\/j=3\/j=4\/j=5:=oM;rcases this with rfl|rfl|rfl|rfl|rfl|rfl<;>(rw[aA,ab h];rfl)
theorem BG(a b:Int):cu [a,b]=prB (a,b):=by simp[cu,prB]
theorem ye{p:Int×Int}(h1:p.1<=9223372036854775807)(h2:p.2<=9223372036854775807):(prB p).length<=18:=by have:=aK h1;have:=aK h2;unfold prB;rw[C5];omega
theorem ui{w:World}{cs:Array Value}{r:Rc}(h:RcAs w cs r)(hlong:fi r=false):Cl prog 326 [.agg cs] w λv w'=>v=.tuple #[stv (iu r).1,iv (iu r).2]/\Fm (λ_=>False) w w':=by
 obtain⟨vs,vm,vi,vp,vt,hcs,_,hs,hm,hi,hp,ht⟩:=h.ex;simp only[fi,JO,C7] at hlong;obtain⟨⟨⟨⟨⟨l1,l2⟩,l3⟩,l4⟩,l5⟩,l6⟩:=hlong;have hins:=h.ins;have hk8:=h.kin;have n9:∀n∈[r.lsn,r.prev,r.next,r.redo,r.xid,r.page,r.slot,r.old,r.new],In n:=λn hn=>hins n (by unfold rNums;simp only[H5];exact .inl (.inl (.inl (.inl (.inl hn)))));have nsl:∀n∈r.slots,n<=9223372036854775807:=λn hn=>(hins n (by unfold rNums;simp only[H5];exact .inl (.inl (.inl (.inl (.inr hn)))))).2;have nmo:∀n∈r.more,n<=9223372036854775807:=λn hn=>(hins n (by unfold rNums;simp only[H5];exact .inl (.inl (.inl (.inr hn))))).2;have nim:∀m∈r.imgs,m.1<=9223372036854775807:=λm hm=>(hins m.1 (by unfold rNums;simp only[H5];exact .inl (.inl (.inr (E8.2 ⟨m,hm,rfl⟩))))).2;have npg:∀m∈r.pages,m.1<=9223372036854775807/\m.2<=9223372036854775807:=λm hm=>⟨(hins m.1 (by unfold rNums;simp only[H5];exact .inl (.inr (fj hm).1))).2,(hins m.2 (by unfold rNums;simp only[H5];exact .inl (.inr (fj hm).2))).2⟩;have ntx:∀m∈r.txns,m.1<=9223372036854775807/\m.2<=9223372036854775807:=λm hm=>⟨(hins m.1 (by unfold rNums;simp only[H5];exact .inr (fj hm).1)).2,(hins m.2 (by unfold rNums;simp only[H5];exact .inr (fj hm).2)).2⟩;have nhd:∀n∈iR r,n<=9223372036854775807:=λn hn=>by unfold iR at hn;simp only[H3,KH,or_false] at hn;rcases hn with rfl|rfl|rfl|rfl|rfl|rfl|rfl|rfl|rfl|rfl<;>first|omega|exact(n9 _ sI).2
 refine c326 ?_;refine ae ?_;intro x1 w1 hx1 hs1 hw1 hf1;have hR1:RB w1 x1 r vs vm vi vp vt:=⟨by rw[<- hcs];exact hw1⟩;have hlt1:=hR1.lt;have kS:∀{w'},Fm (λ_=>False) w1 w'->CellsAt w' vs r.slots.length 1 (r.slots.map iv):=λhf=>hs.keep (Fmf hf1 hf) iT;have kM:∀{w'},Fm (λ_=>False) w1 w'->CellsAt w' vm r.more.length 1 (r.more.map iv):=λhf=>hm.keep (Fmf hf1 hf) iT;have kI:∀{w'},Fm (λ_=>False) w1 w'->ImAs w' vi r.imgs:=λhf=>hi.keep (Fmf hf1 hf);have kP:∀{w'},Fm (λ_=>False) w1 w'->CellsAt w' vp r.pages.length 2 (r.pages.flatMap pc2):=λhf=>hp.keep (Fmf hf1 hf) iT;have kT:∀{w'},Fm (λ_=>False) w1 w'->CellsAt w' vt r.txns.length 2 (r.txns.flatMap pc2):=λhf=>ht.keep (Fmf hf1 hf) iT;have kR:∀{w'},Fm (λ_=>False) w1 w'->RB w' x1 r vs vm vi vp vt:=λhf=>hR1.keep hf id;have blt:∀{v:Value} {ns:List Int},CellsAt w v ns.length 1 (ns.map iv)->ns≠[]->∀g,blockOf v=some g->g<w1.heap.size:=λhc hne g hg=>by have:=hc.blt (by simpa using hne) g hg;omega
 refine WS.new (Fm.refl _ w1) ?_;intro w2 rw h2 hf2;have hR2:=kR hf2;have ek:IntKind.i64.wrap r.kind=r.kind:=by rw[af];omega
 have ekc:cvI .i64 (.int .u8 r.kind)=some (iv r.kind):=by show some (Value.int .i64 (IntKind.i64.wrap r.kind))=_;rw[ek]
 simp only[RS,hR2.c0,hR2.c1,hR2.c2,hR2.c3,hR2.c4,hR2.c5,hR2.c6,hR2.c7,hR2.c8,hR2.c9,ekc];refine h2.lit (Cm _ _ _ _ _ _ _ _ _ _ _) rfl (λn hn=>nhd n hn) sI ?_;intro u3 w3 h3
 replace h3:WS w1 w3 rw (cu (iR r)):=by have:=h3;rw[H9] at this;exact this
 have hl3:(cu (iR r)).length<=90:=by have:=ig nhd;exact this
 have hR3:=kR h3.fm;simp only[RS,hR3.c10];refine h3.text oM oM ?_;intro u4 w4 h4;have hR4:=kR h4.fm;have hl4:(cu (iR r)++iK r.data).length<=700:=by have:=aK (n:=r.data.length) oM;rw[C5];unfold iK;rw[C5];omega
 simp only[RS,hR4.A2,hR4.c12];have hsv:∃a c,vs=.slice a r.slots.length c:=by obtain⟨⟨a,c,e,_⟩,_⟩:=hs;exact⟨a,c,e⟩
 have hmv:∃a c,vm=.slice a r.more.length c:=by obtain⟨⟨a,c,e,_⟩,_⟩:=hm;exact⟨a,c,e⟩
 have hbld:(Instr.build 441 #[(0,vs),(1,vm)]).run prog w4=.ok (.agg #[vs,vm]) w4:=by obtain⟨a,c,rfl⟩:=hsv;obtain⟨a',c',rfl⟩:=hmv;exact Ev _ _ _ _ _ _ _
 refine ag hbld ?_;generalize hB4:cu (iR r)++iK r.data=B4 at h4 hl4;refine⟨λvl w'=>(vl=[iv 0]/\WS w1 w' rw B4)\/(vl=[iv 1]/\WS w1 w' rw (B4++dU r.slots))\/(vl=[iv 2]/\WS w1 w' rw (B4++dU r.slots++dU r.more)),λvl _=>(2 - nth vl 0).toNat,.inl ⟨rfl,h4⟩,?_⟩;have hls:(dU r.slots).length<=2400:=by have:=ig nsl;have:=aK (n:=r.slots.length) oM;unfold dU;rw[C5];omega
 have hlm:(dU r.more).length<=2400:=by have:=ig nmo;have:=aK (n:=r.more.length) oM;unfold dU;rw[C5];omega
 rintro _ w5 iv5 (⟨hvl,h5⟩|⟨hvl,h5⟩|⟨hvl,h5⟩)
 ·cases hvl;have d1:decide ((0:Int)<2)=true:=dC;have e1:ixG false 2 1 (.agg #[vs,vm]) (iv 0)=some vs:=rfl;have e2:IntKind.i64.wrap (0+1)=1:=rfl;simp only[RS,d1,e1,(kS h5.fm).lenV];refine h5.lit (dA _ _) rfl (by intro n hn;simp at hn;omega) oM ?_;intro u6 w6 h6;rw[jl] at h6;have:=aK (n:=r.slots.length) oM;refine h6.num (kS h6.fm) (blt hs) nsl (by rw[C5];omega) ?_;intro u7 w7 h7;simp only[RS,e2];exact⟨.inr (.inl ⟨tV,by have:=h7;rw[G7] at this;exact this⟩),by simp[nth,iv]⟩
 ·cases hvl;have d1:decide ((1:Int)<2)=true:=dC;have e1:ixG false 2 1 (.agg #[vs,vm]) (iv 1)=some vm:=rfl;have e2:IntKind.i64.wrap (1+1)=2:=rfl;simp only[RS,d1,e1,(kM h5.fm).lenV];refine h5.lit (dA _ _) rfl (by intro n hn;simp at hn;omega) (by rw[C5];omega) ?_;intro u6 w6 h6;rw[jl] at h6;have:=aK (n:=r.more.length) oM;refine h6.num (kM h6.fm) (blt hm) nmo (by simp only[C5];omega) ?_;intro u7 w7 h7;simp only[RS,e2];exact⟨.inr (.inr ⟨tV,by have:=h7;rw[G7 (B4++dU r.slots)] at this;exact this⟩),by simp[nth,iv]⟩
 ·cases hvl;have d1:decide ((2:Int)<2)=false:=dC;have hR5:=kR h5.fm;have hl5:(B4++dU r.slots++dU r.more).length<=6000:=by simp only[C5];omega
  generalize hB5:B4++dU r.slots++dU r.more=B5 at h5 hl5;simp only[RS,d1,hR5.c13,(kI h5.fm).lenV];refine h5.lit (dA _ _) rfl (by intro n hn;simp at hn;omega) oM ?_;intro u6 w6 h6;rw[jl] at h6;have hR6:=kR h6.fm;have hl6:(B5++bF (r.imgs.length:Int)).length<=6010:=by have:=aK (n:=r.imgs.length) oM;rw[C5];omega
  generalize hB6:B5++bF (r.imgs.length:Int)=B6 at h6 hl6;simp only[RS,hR6.c13,(kI h6.fm).lenV];refine⟨λvl w'=>∃i:Nat,vl=[iv i]/\i<=r.imgs.length/\WS w1 w' rw (B6++(r.imgs.take i).flatMap sJ)/\(B6++(r.imgs.take i).flatMap sJ).length<=6010+600*i/\dS r.imgs=dS (r.imgs.drop i),λvl _=>(r.imgs.length - nth vl 0).toNat,⟨0,rfl,oM,by simpa using h6,by simpa using hl6,rfl⟩,?_⟩;rintro _ w7 iv7 ⟨i,hvl,hile,h7,hl7,hie⟩;cases hvl;by_cases hlt:i<r.imgs.length
  ·have hx:r.imgs[i]?=some r.imgs[i]:=C6 hlt;have hdr:=Jo hlt;generalize r.imgs[i]=m at hx hdr;rw[hdr] at hie;have hmm:=F7 hx;obtain⟨ad,u,hix,hcv,hone,hpg⟩:=(kI h7.fm).ld hx;have d2:decide ((i:Int)<(r.imgs.length:Int))=true:=by rw[C4];omega
   have e1:IntKind.i64.wrap ((i:Int)+1)=((i+1:Nat):Int):=by rw[af]<;>omega
   simp only[RS,d2,hix,hcv];refine ae ?_;intro x8 w8 hx8 hs8 hw8 hf8;refine ao hw8 rfl (qO _) (by intro q hq;simp[imC,pcs] at hq;rcases hq with rfl|rfl|rfl|rfl|rfl|rfl|rfl<;>first|rfl|exact hone) ?_;intro w9 hw9 hs9 hf9;have hf79:Fm (λ_=>False) w7 w9:=Fm.own hf8 hf9 (by rintro y rfl;omega);have h9:=h7.keep hf79;simp only[RS,CE hw9];refine(cH (hpg.keep hf79)).mono ?_;rintro _ w10 ⟨rfl,hf10⟩;have h10:=h9.keep hf10;have he:tW m.2=.tuple #[stv (pEnc m.2).1,iv (pErr m.2)]:=by unfold tW;rw[sX]
   rw[he];simp only[RS,aF];rw[show dS (m::r.imgs.drop (i+1))=bif decide (pErr m.2=0) then dS (r.imgs.drop (i+1)) else pErr m.2 from rfl] at hie;cases hz:decide (pErr m.2=0) with
   | false=>
    rw[hz,C8] at hie;have hz':decide (dS r.imgs=0)=false:=by rw[hie];exact hz
    simp only[RS];refine⟨?_,Fmf hf1 h10.fm⟩;unfold iu;rw[hz',C8,hie]
   | true=>
    rw[hz,D8] at hie;have h0:pErr m.2=0:=by simpa using hz
    have c10:w10.cell? ⟨x8,0,none⟩=some (iv m.1):=by rw[ab (hf10.heap hw9 id)];rfl
    simp only[RS,c10];refine h10.lit (dA _ _) rfl (by intro n hn;simp at hn;subst hn;exact nim m hmm) oM ?_;intro u11 w11 h11;rw[jl] at h11;have hel:=aK (nim m hmm);have hlen:=ij h0;obtain⟨_,htl⟩:=tr hlen;refine(vd w11 (pEnc m.2).1 oM).mono ?_;rintro _ w12 ⟨rfl,rfl⟩;refine h11.text oM (by rw[C5];omega) ?_;intro u13 w13 h13;simp only[RS,e1];have e2:B6++(r.imgs.take (i+1)).flatMap sJ=B6++(r.imgs.take i).flatMap sJ++bF m.1++iK (iB (pEnc m.2).1):=by rw[H8,hx];simp[sJ]
    refine⟨⟨i+1,rfl,oM,by rw[e2];exact h13,?_,hie⟩,by simp only[ba];omega⟩;rw[e2];have:=aK (n:=(iB (pEnc m.2).1).length) oM;simp only[C5] at hl7 ⊢;unfold iK;rw[C5];omega
  ·have hie2:i=r.imgs.length:=oM;subst hie2;rw[List.drop_length] at hie;have d2:decide (((r.imgs.length:Nat):Int)<(r.imgs.length:Int))=false:=sI;rw[IX] at h7 hl7;have hl7':(B6++r.imgs.flatMap sJ).length<=9000:=oM;generalize hB7:B6++r.imgs.flatMap sJ=B7 at h7 hl7';have hR7:=kR h7.fm;simp only[RS,d2,hR7.c14,(kP h7.fm).lenV];refine h7.lit (dA _ _) rfl (by intro n hn;simp at hn;omega) oM ?_;intro u16 w16 h16;rw[jl] at h16;have hR16:=kR h16.fm;have hl16:(B7++bF (r.pages.length:Int)).length<=9100:=by have:=aK (n:=r.pages.length) oM;rw[C5];omega
   generalize hB16:B7++bF (r.pages.length:Int)=B16 at h16 hl16;simp only[RS,hR16.c14,(kP h16.fm).lenV];refine⟨λvl w'=>∃i:Nat,vl=[iv i]/\i<=r.pages.length/\WS w1 w' rw (B16++(r.pages.take i).flatMap prB)/\(B16++(r.pages.take i).flatMap prB).length<=9100+18*i,λvl _=>(r.pages.length - nth vl 0).toNat,⟨0,rfl,oM,by simpa using h16,by simpa using hl16⟩,?_⟩;rintro _ w17 iv17 ⟨i,hvl,hile,h17,hl17⟩;cases hvl;by_cases hlt:i<r.pages.length
   ·have hx:r.pages[i]?=some r.pages[i]:=C6 hlt;generalize r.pages[i]=m at hx;have hmm:=F7 hx;obtain⟨ad,hix,hcv,_⟩:=gQ dK oM (kP h17.fm) hx;have d2:decide ((i:Int)<(r.pages.length:Int))=true:=by rw[C4];omega
    have e1:IntKind.i64.wrap ((i:Int)+1)=((i+1:Nat):Int):=by rw[af]<;>omega
    simp only[RS,d2,hix,hcv];refine ae ?_;intro x8 w8 hx8 hs8 hw8 hf8;refine ao hw8 rfl (dK _) (by intro q hq;simp[pc2] at hq;rcases hq with rfl|rfl<;>rfl) ?_;intro w9 hw9 hs9 hf9;have hf79:Fm (λ_=>False) w17 w9:=Fm.own hf8 hf9 (by rintro y rfl;omega);have h9:=h17.keep hf79;have c0:w9.cell? ⟨x8,0,none⟩=some (iv m.1):=by rw[ab hw9];rfl
    have c1:w9.cell? ⟨x8,1,none⟩=some (iv m.2):=by rw[ab hw9];rfl
    simp only[RS,c0,c1];obtain⟨hm1,hm2⟩:=npg m hmm;refine h9.lit (ot _ _ _) rfl (by intro n hn;simp at hn;rcases hn with rfl|rfl<;>assumption) oM ?_;intro u11 w11 h11;rw[BG] at h11;simp only[RS,e1];have e2:B16++(r.pages.take (i+1)).flatMap prB=B16++(r.pages.take i).flatMap prB++prB (m.1,m.2):=by rw[H8,hx];simp
    refine⟨⟨i+1,rfl,oM,by rw[e2];exact h11,?_⟩,by simp only[ba];omega⟩;rw[e2];have:=ye (p:=(m.1,m.2)) hm1 hm2;rw[C5];omega
   have hie3:i=r.pages.length:=oM;subst hie3;have d17:decide (((r.pages.length:Nat):Int)<(r.pages.length:Int))=false:=sI;rw[IX] at h17 hl17;have hl17':(B16++r.pages.flatMap prB).length<=160000:=oM;generalize hB17:B16++r.pages.flatMap prB=B17 at h17 hl17';have hR17:=kR h17.fm;simp only[RS,d17,hR17.c15,(kT h17.fm).lenV];refine h17.lit (dA _ _) rfl (by intro n hn;simp at hn;omega) oM ?_;intro u26 w26 h26;rw[jl] at h26;have hR26:=kR h26.fm;have hl26:(B17++bF (r.txns.length:Int)).length<=160100:=by have:=aK (n:=r.txns.length) oM;rw[C5];omega
   generalize hB26:B17++bF (r.txns.length:Int)=B26 at h26 hl26;simp only[RS,hR26.c15,(kT h26.fm).lenV];refine⟨λvl w'=>∃i:Nat,vl=[iv i]/\i<=r.txns.length/\WS w1 w' rw (B26++(r.txns.take i).flatMap prB)/\(B26++(r.txns.take i).flatMap prB).length<=160100+18*i,λvl _=>(r.txns.length - nth vl 0).toNat,⟨0,rfl,oM,by simpa using h26,by simpa using hl26⟩,?_⟩;rintro _ w27 iv27 ⟨i,hvl,hile,h27,hl27⟩;cases hvl;by_cases hlt:i<r.txns.length
   ·have hx:r.txns[i]?=some r.txns[i]:=C6 hlt;generalize r.txns[i]=m at hx;have hmm:=F7 hx;obtain⟨ad,hix,hcv,_⟩:=gQ dK oM (kT h27.fm) hx;have d2:decide ((i:Int)<(r.txns.length:Int))=true:=by rw[C4];omega
    have e1:IntKind.i64.wrap ((i:Int)+1)=((i+1:Nat):Int):=by rw[af]<;>omega
    simp only[RS,d2,hix,hcv];refine ae ?_;intro x8 w8 hx8 hs8 hw8 hf8;refine ao hw8 rfl (dK _) (by intro q hq;simp[pc2] at hq;rcases hq with rfl|rfl<;>rfl) ?_;intro w9 hw9 hs9 hf9;have hf79:Fm (λ_=>False) w27 w9:=Fm.own hf8 hf9 (by rintro y rfl;omega);have h9:=h27.keep hf79;have c0:w9.cell? ⟨x8,0,none⟩=some (iv m.1):=by rw[ab hw9];rfl
    have c1:w9.cell? ⟨x8,1,none⟩=some (iv m.2):=by rw[ab hw9];rfl
    simp only[RS,c0,c1];obtain⟨hm1,hm2⟩:=ntx m hmm;refine h9.lit (ot _ _ _) rfl (by intro n hn;simp at hn;rcases hn with rfl|rfl<;>assumption) oM ?_;intro u11 w11 h11;rw[BG] at h11;simp only[RS,e1];have e2:B26++(r.txns.take (i+1)).flatMap prB=B26++(r.txns.take i).flatMap prB++prB (m.1,m.2):=by rw[H8,hx];simp
    refine⟨⟨i+1,rfl,oM,by rw[e2];exact h11,?_⟩,by simp only[ba];omega⟩;rw[e2];have:=ye (p:=(m.1,m.2)) hm1 hm2;rw[C5];omega
   have hie3:i=r.txns.length:=oM;subst hie3;have d27:decide (((r.txns.length:Nat):Int)<(r.txns.length:Int))=false:=sI;rw[IX] at h27 hl27;have hl27':(B26++r.txns.flatMap prB).length<=180000:=oM;generalize hB27:B26++r.txns.flatMap prB=B27 at h27 hl27';have hR27:=kR h27.fm;simp only[RS,d27];refine(dm h27.wr.1).mono ?_;rintro _ w30 ⟨rfl,rfl⟩;have hbody:fp r=B27:=by
    rw[<- hB27,<- hB26,<- hB17,<- hB16,<- hB7,<- hB6,<- hB5,<- hB4]
    rfl
   have hie0:decide (dS r.imgs=0)=true:=by rw[hie];rfl
   have d9:decide ((65535:Int)<(B27.length:Int))=decide (65535<B27.length):=by rw[G9];omega
   unfold iu;rw[hie0,D8,hbody];simp only[RS,aq,d9];cases hbig:decide (65535<B27.length) with
   | true=>simp only[RS,D8];exact⟨tV,Fmf hf1 h27.fm⟩
   | false=>simp only[RS,C8];exact⟨tV,Fmf hf1 h27.fm⟩
theorem je{w:World}{cs:Array Value}{r:Rc}(h:RcAs w cs r):Cl prog 258 [.agg cs] w λv w'=>v=.tuple #[stv (rCheck r).1,iv (rCheck r).2]/\Fm (λ_=>False) w w':=by
 obtain⟨vs,vm,vi,vp,vt,hcs,_,hs,hm,hi,hp,ht⟩:=h.ex;have hk8:=h.kin;refine c258 ?_;refine ae ?_;intro x1 w1 hx1 hs1 hw1 hf1;have hR1:RB w1 x1 r vs vm vi vp vt:=⟨by rw[<- hcs];exact hw1⟩;have h1:=h.keep hf1;rw[hcs] at h1;unfold rCheck;simp only[RS,hR1.c3];cases e1:decide (r.kind<1) with
 | true=>simp only[RS,Jv,D8];exact⟨tV,hf1⟩
 | false=>
 simp only[RS,Jf];cases e2:decide (13<r.kind) with
 | true=>simp only[RS,D8];exact⟨tV,hf1⟩
 | false=>
 simp only[RS,C8,hR1.c0];cases e3:decide (r.lsn<1) with
 | true=>simp only[RS,Jv,D8];exact⟨tV,hf1⟩
 | false=>
 simp only[RS,hR1.all,Jf];refine(px h1).mono ?_;rintro v2 w2 ⟨ho2,hf2⟩;refine(nj (CellsAt.aT ho2)).mono ?_;rintro _ w3 ⟨rfl,rfl⟩;have hF2:=Fmf hf1 hf2;have hR2:=hR1.keep hf2 id;cases e4:(rNums r).any vu with
 | true=>simp only[RS,D8];exact⟨tV,hF2⟩
 | false=>
 have m1:decide ((512:Int)<(r.data.length:Int))=decide (512<r.data.length):=by rw[G9];omega
 have m2:decide ((255:Int)<(r.slots.length:Int))=decide (255<r.slots.length):=by rw[G9];omega
 have m3:decide ((255:Int)<(r.more.length:Int))=decide (255<r.more.length):=by rw[G9];omega
 have m4:decide ((4:Int)<(r.imgs.length:Int))=decide (4<r.imgs.length):=by rw[G9];omega
 have m5:decide ((8192:Int)<(r.pages.length:Int))=decide (8192<r.pages.length):=by rw[G9];omega
 have m6:decide ((1024:Int)<(r.txns.length:Int))=decide (1024<r.txns.length):=by rw[G9];omega
 simp only[RS,C8,hR2.c10,aq,m1];have long:∀{w'},fi r=true->Fm (λ_=>False) w w'->Value.tuple #[.string (ByteArray.mk #[]),.int .i64 3]=.tuple #[stv (bif fi r then(([]:Bs),(3:Int)) else iu r).1,iv (bif fi r then(([]:Bs),(3:Int)) else iu r).2]/\Fm (λ_=>False) w w':=λhl hf=>⟨by rw[hl];rfl,hf⟩;cases q1:decide (512<r.data.length) with
 | true=>simp only[RS];exact long (by simp[fi,q1]) hF2
 | false=>
 simp only[RS,hR2.A2,hs.lenV,m2];cases q2:decide (255<r.slots.length) with
 | true=>simp only[RS];exact long (by simp[fi,q2]) hF2
 | false=>
 simp only[RS,hR2.c12,hm.lenV,m3];cases q3:decide (255<r.more.length) with
 | true=>simp only[RS];exact long (by simp[fi,q3]) hF2
 | false=>
 simp only[RS,hR2.c13,hi.lenV,m4];cases q4:decide (4<r.imgs.length) with
 | true=>simp only[RS];exact long (by simp[fi,q4]) hF2
 | false=>
 simp only[RS,hR2.c14,hp.lenV,m5];cases q5:decide (8192<r.pages.length) with
 | true=>simp only[RS];exact long (by simp[fi,q5]) hF2
 | false=>
 simp only[RS,hR2.c15,ht.lenV,m6];cases q6:decide (1024<r.txns.length) with
 | true=>simp only[RS];exact long (by simp[fi,q6]) hF2
 | false=>
 have hl:fi r=false:=by unfold fi;rw[q1,q2,q3,q4,q5,q6];rfl
 simp only[RS,hR2.all];refine(ui (h1.keep hf2) hl).mono ?_;rintro _ w4 ⟨rfl,hf4⟩;simp only[RS];refine⟨?_,Fmf hF2 hf4⟩;rw[hl]
 rfl
theorem uG(r:Rc):(rCheck r).1.length<=65535:=by
 unfold rCheck;cases decide (r.kind<1)||decide (13<r.kind) with
 | true=>simp
 | false=>
 cases decide (r.lsn<1)||(rNums r).any vu with
 | true=>simp
 | false=>
 cases fi r with
 | true=>simp
 | false=>
 simp only[C8];unfold iu;cases decide (dS r.imgs=0) with
 | false=>simp
 | true=>
 cases hb:decide (65535<(fp r).length) with
 | true=>simp
 | false=>rw[C7] at hb;simp only[D8,C8];omega
theorem pM{w:World}{cs:Array Value}{r:Rc}(h:RcAs w cs r):Cl prog 259 [.agg cs] w λv w'=>v=.tuple #[stv (lF r).1,iv (lF r).2]/\Fm (λ_=>False) w w':=by
 refine c259 ?_;refine ae ?_;intro x1 w1 hx1 hs1 hw1 hf1;simp only[RS,aa hw1 h.size];refine(je (h.keep hf1)).mono ?_;rintro _ w2 ⟨rfl,hf2⟩;have hF2:=Fmf hf1 hf2;have hlen:=uG r;unfold lF;simp only[RS,aF];cases hz:decide ((rCheck r).2=0) with
 | false=>simp only[RS,C8];exact⟨tV,hF2⟩
 | true=>
 generalize (rCheck r).1=s at hlen;simp only[RS,D8,aq];refine(bt w2 oM 4).mono ?_;rintro _ w3 ⟨rfl,hf3⟩;refine(jL w3 s oM).mono ?_;rintro _ w4 ⟨rfl,rfl⟩;obtain⟨q1,q2⟩:=so s;simp only[RS,bN,q2];refine(bt w4 q1 4).mono ?_;rintro _ w5 ⟨rfl,hf5⟩;have g1:eV (s.length:Nat) 4=beN 4 s.length:=ej (n:=s.length) (w:=4) oM oM;have g2:eV (crc s:Nat) 4=beN 4 (crc s):=ej (n:=crc s) (w:=4) oM oM;rw[g1,g2,mG (by rw[aH,aH];omega)]
 try simp only[RS]
 rw[mG (by rw[C5,aH,aH];omega)]
 try simp only[RS]
 exact⟨tV,Fmf hF2 (Fmf hf3 hf5)⟩
theorem bP(most:Int)(st:St2):0<=(rn most st).1/\(rn most st).1<=max most 0/\(rn most st).2.1.length<=st.1.length:=by
 unfold rn rdNum;cases decide (st.2=0) with
 | true=>exact BM most 9 0 0 st.1
 | false=>exact⟨Kd _,by show(0:Int)<=_;omega,D9 _⟩
theorem pP{most:Int}(hm:0<=most)(st:St2):((rt most st).1.length:Int)<=most/\(rt most st).2.1.length<=st.1.length:=by
 have h:=bP most st;unfold rt;cases decide ((rn most st).2.2=0) with
 | true=>
  cases hd:decide (((rn most st).2.1.length:Int)<(rn most st).1) with
  | true=>simp;omega
  | false=>simp only[D8,C8,E5,G4];omega
 | false=>simp only[C8,Ja];omega
theorem yA:∀(n:Nat) (st:St2),(rC n st).1.length<=n/\(∀x∈(rC n st).1,okN x)/\(rC n st).2.1.length<=st.1.length
 | 0,st=>⟨D9 _,by simp[rC],D9 _⟩
 | n+1,st=>by
  have h:=bP 4611686018427387904 st;have ih:=yA n (rn 4611686018427387904 st).2;have h1:okN (rn 4611686018427387904 st).1:=⟨h.1,by have:=h.2.1;omega⟩;unfold rC;cases decide ((rn 4611686018427387904 st).2.2=0) with
  | true=>
   simp only[D8,G2];refine⟨oM,λx hx=>?_,oM⟩;rcases H3.1 hx with rfl|hx
   ·exact h1
   ·exact ih.2.1 x hx
  | false=>
   simp only[C8];refine⟨sI,λx hx=>?_,h.2.2⟩;obtain rfl:x=_:=by simpa using hx
   exact h1
theorem yB{most:Int}(hm:0<=most)(st:St2):((rl most st).1.length:Int)<=most/\(∀x∈(rl most st).1,okN x)/\(rl most st).2.1.length<=st.1.length:=by have h:=bP most st;have h2:=yA (rn most st).1.toNat (rn most st).2;unfold rl;exact⟨oM,h2.2.1,oM⟩
theorem yz:∀(n:Nat) (st:St2) {r:List (Int×Pg)×St2},vA n st=some r->r.1.length=n/\(∀m∈r.1,okN m.1/\m.2.lsn<=9223372036854775807)/\r.2.1.length<=st.1.length
 | 0,st,r,h=>by cases h;exact⟨rfl,sI,D9 _⟩
 | n+1,st,r,h=>by
  have h0:=bP 4611686018427387904 st;have h1:=pP (most:=512) oM (rn 4611686018427387904 st).2;unfold vA at h;cases hc:decide ((dJ (nG (rt 512 (rn 4611686018427387904 st).2).1)).2=0)&&decide ((rt 512 (rn 4611686018427387904 st).2).2.2=0) with
  | false=>rw[hc,C8] at h;cases h
  | true=>
   rw[hc,D8,E6] at h;obtain⟨q,hq,rfl⟩:=h;have ih:=yz n _ hq;rw[E0,C4] at hc;refine⟨by simp only[G2];omega,λm hm=>?_,by simp only;omega⟩;rcases H3.1 hm with rfl|hm
   ·exact⟨⟨h0.1,by have:=h0.2.1;simp only;omega⟩,(Cv hc.1).2.2⟩
   ·exact ih.2.1 m hm
theorem rE:∀(n:Nat) (st:St2) {r:List (Int×Int)×St2},nM n st=some r->r.1.length=n/\(∀m∈r.1,okN m.1/\okN m.2)/\r.2.1.length<=st.1.length
 | 0,st,r,h=>by cases h;exact⟨rfl,sI,D9 _⟩
 | n+1,st,r,h=>by
  have h0:=bP 4611686018427387904 st;have h1:=bP 4611686018427387904 (rn 4611686018427387904 st).2;unfold nM at h;cases hc:decide (st.2=0) with
  | false=>rw[hc,C8] at h;cases h
  | true=>
   rw[hc,D8,E6] at h;obtain⟨q,hq,rfl⟩:=h;have ih:=rE n _ hq;refine⟨by simp only[G2];omega,λm hm=>?_,by simp only;omega⟩;rcases H3.1 hm with rfl|hm
   ·exact⟨⟨h0.1,by have:=h0.2.1;simp only;omega⟩,⟨h1.1,by have:=h1.2.1;simp only;omega⟩⟩
   ·exact ih.2.1 m hm
structure Bnd (r : Rc) : Prop where
 nums : ∀ n ∈ rNums r, okN n
 kind : 0 ≤ r.kind ∧ r.kind ≤ 13
 data : r.data.length ≤ 512
 slots : r.slots.length ≤ 255
 more : r.more.length ≤ 255
 imgs : r.imgs.length ≤ 4
 pages : r.pages.length ≤ 8192
 txns : r.txns.length ≤ 1024
 lsns : ∀ m ∈ r.imgs, m.2.lsn ≤ 9223372036854775807
theorem sM{l:List (Int×Int)}{n:Int}(h:n∈prs l):∃p∈l,n=p.1\/n=p.2:=by unfold prs at h;obtain⟨p,hp,hn⟩:=KF.1 h;simp at hn;exact⟨p,hp,hn⟩
theorem Dy{a:List Int}{st:St2}{x:Rc}(h:uZ a st=some x)(ha:∀i,i<10->i≠3->okN (gI a i))(hk:0<=gI a 3/\gI a 3<=13):Bnd x:=by
 unfold uZ at h;have t1:=pP (most:=512) oM st;have t2:=yB (most:=255) oM (rt 512 st).2;have t3:=yB (most:=255) oM (rl 255 (rt 512 st).2).2;have t4:=bP 4 (rl 255 (rl 255 (rt 512 st).2).2).2;simp only at h;rw[Jl] at h;obtain⟨im,h1,h⟩:=h;rw[Jl] at h;obtain⟨pg,h2,h⟩:=h;rw[Jl] at h;obtain⟨tx,h3,h⟩:=h;have t5:=bP 8192 im.2;have t6:=bP 1024 pg.2;have u1:=yz _ _ h1;have u2:=rE _ _ h2;have u3:=rE _ _ h3;cases he:decide (vz tx.2.1 tx.2.2=0) with
 | false=>rw[he,C8] at h;cases h
 | true=>
  rw[he,D8] at h;cases h;refine⟨λn hn=>?_,hk,by simp only;omega,by simp only;omega,by simp only;omega,by simp only;omega,by simp only;omega,by simp only;omega,λm hm=>(u1.2.1 m hm).2⟩;unfold rNums at hn;simp only[H5] at hn;rcases hn with((((hn|hn)|hn)|hn)|hn)|hn
  ·simp only[H3,KH,or_false] at hn;rcases hn with rfl|rfl|rfl|rfl|rfl|rfl|rfl|rfl|rfl<;>exact ha _ oM oM
  ·exact t2.2.1 n hn
  ·exact t3.2.1 n hn
  ·obtain⟨m,hm,rfl⟩:=E8.1 hn;exact(u1.2.1 m hm).1
  ·obtain⟨p,hp,e|e⟩:=sM hn<;>rw[e]
   ·exact(u2.2.1 p hp).1
   ·exact(u2.2.1 p hp).2
  ·obtain⟨p,hp,e|e⟩:=sM hn<;>rw[e]
   ·exact(u3.2.1 p hp).1
   ·exact(u3.2.1 p hp).2
theorem dy{w:World}{rb:Nat}{st:St2}(h:RdAt w rb st.1 st.2)(hs:st.1.length<=1000000){most:Int}(hm:most<=9223372036854775807):Cl prog 321 [pv rb,iv most] w λv w'=>v=iv (rn most st).1/\RdAt w' rb (rn most st).2.1 (rn most st).2.2/\Fm (·=rb) w w':=wC h most oM hm
theorem fW{w:World}{rb:Nat}{st:St2}(h:RdAt w rb st.1 st.2)(hs:st.1.length<=1000000){most:Int}(hm:most<=9223372036854775807):Cl prog 287 [pv rb,iv most] w λv w'=>v=stv (rt most st).1/\RdAt w' rb (rt most st).2.1 (rt most st).2.2/\Fm (·=rb) w w':=by
 refine c287 ?_;refine(dy h hs hm).mono ?_;have hin:=bP most st;unfold rt;rintro _ w1 ⟨rfl,h1,hf1⟩;generalize (rn most st).1=n at hin ⊢;generalize (rn most st).2=st1 at hin h1;simp only[RS,h1.c1,aF];cases hz:decide (st1.2=0) with
 | false=>simp only[RS,C8];exact⟨tV,h1,hf1⟩
 | true=>
  obtain⟨j,rfl⟩:=E9 hin.1;simp only[RS,D8,h1.c0,aq,H6];cases hd:decide ((st1.1.length:Int)<(j:Int)) with
  | true=>
   simp only[RS,D8];refine(dN h1 10).mono ?_;rintro _ w2 ⟨rfl,h2,hf2⟩
   try simp only[RS]
   exact⟨tV,h2,hf1.trans hf2 iT iT⟩
  | false=>rw[C7] at hd;have s1:=gl (l:=st1.1) (i:=j) oM .i64;have s2:=eP (l:=st1.1) (i:=j) oM .i64;simp only[RS,C8,s1,s2];refine au h1 (by show 0<2;decide) rfl ?_;intro w2 hw2 hs2 hf2;rw[C4] at hz;refine⟨tV,?_,hf1.trans hf2 iT iT⟩;have:RdAt w2 rb (st1.1.drop j) st1.2:=hw2;rw[hz] at this;exact this
theorem uK{w:World}{rb:Nat}{st:St2}(h:RdAt w rb st.1 st.2)(hs:st.1.length<=1000000):Cl prog 322 [pv rb,iv 255] w λv w'=>w'.ownsRow w.heap.size 3 1 v (rl 255 st).1.length ((rl 255 st).1.map iv)/\RdAt w' rb (rl 255 st).2.1 (rl 255 st).2.2/\Fm (·=rb) w w':=by
 refine c322 ?_;refine aJ (λvs w'=>∃v,vs=[v]/\w'.ownsRow w.heap.size 3 1 v (rl 255 st).1.length ((rl 255 st).1.map iv)/\RdAt w' rb (rl 255 st).2.1 (rl 255 st).2.2/\Fm (·=rb) w w') ?_ ?_
 ·rintro _ w' ⟨v,rfl,g⟩ _;exact⟨v,rfl,g⟩
 ·intro jj hjj;refine(dy h hs oM).mono ?_;have hin:=bP 255 st;unfold rl at hjj;rintro _ w1 ⟨rfl,h1,hf1⟩;generalize (rn 255 st).1=n at hin hjj ⊢;generalize (rn 255 st).2=st1 at hin h1 hjj;obtain⟨N,rfl⟩:=E9 hin.1;rw[H6] at hjj;have hz1:=hf1.size;refine⟨λvs w'=>∃(i:Nat) (v:Value) (L:List Int) (st2:St2),vs=[v,iv i]/\i<=N/\L.length=i/\w'.ownsRow w.heap.size 3 1 v L.length (L.map iv)/\RdAt w' rb st2.1 st2.2/\st2.1.length<=1000000/\rC N st1=(L++(rC (N - i) st2).1,(rC (N - i) st2).2)/\Fm (·=rb) w w',λvs _=>(N - nth vs 1).toNat,⟨0,_,[],st1,rfl,oM,rfl,World.ownsRow_nil _ _ _ _,h1,oM,rfl,hf1⟩,?_⟩;rintro _ w2 v iv2 ⟨i,v0,L,st2,hvs,hi,hL,ho2,h2,hl2,heq,hf2⟩;cases hvs;have hz2:=hf2.size;by_cases hlt:i<N
  ·have d1:decide ((i:Int)<(N:Int))=true:=by rw[C4];omega
   have e1:IntKind.i64.wrap ((i:Int)+1)=((i+1:Nat):Int):=by rw[af]<;>omega
   obtain⟨m,hm⟩:∃m,N - i=m+1:=⟨N - i - 1,oM⟩;have hm1:N - (i+1)=m:=oM;simp only[RS,d1];refine(dy h2 hl2 oM).mono ?_;rw[hm,rC] at heq;have hin2:=bP 4611686018427387904 st2;rintro _ w3 ⟨rfl,h3,hf3⟩;generalize (rn 4611686018427387904 st2).1=x at heq hin2 ⊢;generalize (rn 4611686018427387904 st2).2=st3 at heq hin2 h3;have hF3:Fm (·=rb) w w3:=hf2.trans hf3 iT iT;have hz3:=hF3.size;have hrd:RdAt w2 rb st2.1 st2.2:=h2;have hrbne:∀k,v.ownBlock=some k->k≠rb:=by
    intro k hk e;rcases ho2.2 with⟨rfl,_⟩|⟨g,cap,cur,rfl,_,hg,_⟩
    ·cases hk
    ·have e1:g=k:=by simpa[Value.ownBlock] using hk
     rw[e1,e] at hg;have hq:w2.heap[rb]?=_:=hrd;rw[hq] at hg;cases hg
   have ho3:=ah ho2 hf3 (λk _ _ hk e=>hrbne k hk e);refine nL ho3 (dA _ _) rfl oM hz3 ?_;intro v4 w4 ho4 hf4;have hrl:=h.lt;have h4:=h3.keep hf4 (λe=>oM);have hF4:Fm (·=rb) w w4:=hF3.trans hf4 iT (λy hy e=>oM);refine(dq h4).mono ?_;rintro _ w5 ⟨rfl,rfl⟩;simp only[RS,aF];cases hz:decide (st3.2=0) with
   | false=>rw[hz,C8] at heq;simp only[RS];refine hjj _ _ ⟨v4,rfl,?_⟩;rw[heq];exact⟨ho4,h4,hF4⟩
   | true=>rw[hz,D8] at heq;simp only[RS,e1];refine⟨⟨i+1,v4,L++[x],st3,rfl,oM,by rw[C5,hL];rfl,ho4,h4,oM,?_,hF4⟩,by simp only[cK];omega⟩;rw[heq,hm1];simp
  ·have hie:i=N:=oM;subst hie;have d1:decide ((i:Int)<(i:Int))=false:=sI;rw[Jh,rC] at heq;simp only[H1] at heq;simp only[RS,d1];refine hjj _ _ ⟨v,rfl,?_⟩;rw[heq];exact⟨ho2,h2,hf2⟩
theorem mX{w:World}{base n bytes sz:Nat}{t e:TypeId}{v:Value}{xs:List Value}(E:ElemT prog t e sz bytes)(hsz:0<sz)(h:w.ownsRow base e sz v n xs){b:Nat}{cs:List Value}(hb:w.heap[b]?=some (.cells cs.toArray e))(hcs:cs.length=sz)(h1:∀u∈cs,u.oneCell'=true)(hn:(n+1)*bytes<=140737488355328)(h63:n+1<=maxLen)(hbs:base<=w.heap.size):
  ∃v' w',(Builtin.append_ #[t,t] t #[v,.slice (some ⟨b,0,none⟩) 1 1]).run prog w=.ok v' w'/\w'.ownsRow base e sz v' (n+1) (xs++cs)/\(∀y,v'.ownBlock=some y->v.ownBlock=some y\/w.heap.size<=y)/\Fm (λy=>v.ownBlock=some y) w w':=by
 obtain⟨v',w',hr,ho,hc⟩:=cB E hsz h t ⟨b,0,none⟩ 1 1 oM cs oM (λj u hj=>by rw[aA,E7,ab hb];simpa using hj) h1 h63 hn hbs;refine⟨v',w',hr,ho,?_⟩;rcases hc with⟨g,e1,e2,e3⟩|⟨g,e1,e2,e3⟩
 ·exact⟨λy hy=>.inl (by rw[e1,<- e2];exact hy),e3.mono (λy _ e=>by rw[e];exact e1)⟩
 ·exact⟨λy hy=>.inr (by rw[e1] at hy;cases hy;exact e2),e3.mono iE⟩
abbrev nl:Value:=.slice none 0 0
def rc0:Rc:=⟨0,0,0,0,0,0,0,0,0,0,[],[],[],[],[],[]⟩
theorem kX{r:Rc}{vs vm vi vp vt:Value}(h1:vs.oneCell'=true)(h2:vm.oneCell'=true)(h3:vi.oneCell'=true)(h4:vp.oneCell'=true)(h5:vt.oneCell'=true):∀u∈(rcs r vs vm vi vp vt).toList,u.oneCell'=true:=by intro u hu;simp[rcs] at hu;rcases hu with rfl|rfl|rfl|rfl|rfl|rfl|rfl|rfl|rfl|rfl|rfl|rfl|rfl|rfl|rfl|rfl<;>first|rfl|assumption
theorem Bp(w:World):(Instr.build 168 #[]).run prog w=.ok (.agg (rcs rc0 nl nl nl nl nl)) w:=kR
theorem HI:ElemT prog 165 233 7 80:=bG Tryz.underlying165 kR
theorem Hp:ElemT prog 166 189 2 16:=bG Tryz.underlying166 kR
theorem HJ:ElemT prog 83 185 2 16:=bG Tryz.underlying83 kR
theorem GC(m:Int)(p:Pg)(a:Option Addr)(n c:Nat)(w:World):(Instr.build 233 #[(0,iv m),(1,.agg (pcs p (.slice a n c)))]).run prog w=.ok (.agg (imC (m,p,.slice a n c)).toArray) w:=kR
theorem HX(m:Int)(p:Pg)(a:Option Addr)(n c:Nat)(w:World):(Instr.buildSlice 165 1 #[(0,.agg (imC (m,p,.slice a n c)).toArray)]).run prog w=.ok (.slice (some ⟨w.heap.size,0,none⟩) 1 1) (w.alloc (.cells (imC (m,p,.slice a n c)).toArray 233)):=kR
theorem Ey(a b:Int)(w:World):(Instr.build 189 #[(0,iv a),(1,iv b)]).run prog w=.ok (.agg (pc2 (a,b)).toArray) w:=kR
theorem GD(a b:Int)(w:World):(Instr.build 185 #[(0,iv a),(1,iv b)]).run prog w=.ok (.agg (pc2 (a,b)).toArray) w:=kR
theorem Ht(a b:Int)(w:World):(Instr.buildSlice 166 1 #[(0,.agg (pc2 (a,b)).toArray)]).run prog w=.ok (.slice (some ⟨w.heap.size,0,none⟩) 1 1) (w.alloc (.cells (pc2 (a,b)).toArray 189)):=kR
theorem HY(a b:Int)(w:World):(Instr.buildSlice 83 1 #[(0,.agg (pc2 (a,b)).toArray)]).run prog w=.ok (.slice (some ⟨w.heap.size,0,none⟩) 1 1) (w.alloc (.cells (pc2 (a,b)).toArray 185)):=kR
structure HS (w0 w : World) (x2 rb r4 x5 : Nat) (st : St2) (r : Rc) (vs vm vi vp vt : Value) : Prop where
 res : w.heap[x2]? = some (.cells (rcs rc0 nl nl nl nl nl) 168)
 rd : RdAt w rb st.1 st.2
 rp : w.heap[r4]? = some (.cells #[pv rb] 371)
 x : RB w x5 r vs vm vi vp vt
 fm : Fm (fun _ => False) w0 w
 o1 : w0.heap.size ≤ x2
 o2 : x2 < rb
 o3 : rb < r4
 o4 : r4 < x5
 len : st.1.length ≤ 1000000
section
variable{w0 w w':World}{x2 rb r4 x5:Nat}{st:St2}{r:Rc}{vs vm vi vp vt:Value}
theorem HS.gT{S:Nat->Prop}(h:HS w0 w x2 rb r4 x5 st r vs vm vi vp vt)(hf:Fm S w w')(hS:∀y,S y->x5<y):HS w0 w' x2 rb r4 x5 st r vs vm vi vp vt:=by
 have:=h.o1;have:=h.o2;have:=h.o3;have:=h.o4;have hn:∀y,y<=x5->¬S y:=λy hy e=>by have:=hS y e;omega
 exact⟨hf.heap h.res (hn _ oM),h.rd.keep hf (hn _ oM),hf.heap h.rp (hn _ oM),h.x.keep hf (hn _ oM),Fm.own h.fm hf (λy hy=>by have:=hS y hy;omega),h.o1,h.o2,h.o3,h.o4,h.len⟩
theorem HS.A4(h:HS w0 w x2 rb r4 x5 st r vs vm vi vp vt){st':St2}(hr:RdAt w' rb st'.1 st'.2)(hf:Fm (·=rb) w w')(hl:st'.1.length<=st.1.length):HS w0 w' x2 rb r4 x5 st' r vs vm vi vp vt:=by have:=h.o1;have:=h.o2;have:=h.o3;have:=h.o4;have:=h.len;exact⟨hf.heap h.res oM,hr,hf.heap h.rp oM,h.x.keep hf oM,Fm.own h.fm hf (by rintro y rfl;omega),h.o1,h.o2,h.o3,h.o4,oM⟩
theorem HS.cp(h:HS w0 w x2 rb r4 x5 st r vs vm vi vp vt):w.cell? ⟨r4,0,none⟩=some (pv rb):=by rw[ab h.rp];rfl
theorem HS.o9(h:HS w0 w x2 rb r4 x5 st r vs vm vi vp vt){most:Int}(hm:most<=9223372036854775807){k:KV}(hk:∀w',HS w0 w' x2 rb r4 x5 (rn most st).2 r vs vm vi vp vt->Fm (·=rb) w w'->k (iv (rn most st).1) w'):Cl prog 321 [pv rb,iv most] w k:=by refine(dy h.rd h.len hm).mono ?_;rintro _ w' ⟨rfl,h1,hf⟩;exact hk w' (h.A4 h1 hf (bP most st).2.2) hf
theorem HS.num(h:HS w0 w x2 rb r4 x5 st r vs vm vi vp vt){k:KV}(hk:∀w',HS w0 w' x2 rb r4 x5 (rn 4611686018427387904 st).2 r vs vm vi vp vt->Fm (·=rb) w w'->k (iv (rn 4611686018427387904 st).1) w'):ClV prog (.func (.func 320) #[] #[pv r4]) [] w k:=by refine ax kR ?_;show Cl prog 320 [pv r4] w k;refine c320 ?_;simp only[RS,h.cp];refine h.o9 oM ?_;intro w' h' hf;exact hk w' h' hf
theorem HS.text(h:HS w0 w x2 rb r4 x5 st r vs vm vi vp vt){k:KV}(hk:∀w',HS w0 w' x2 rb r4 x5 (rt 512 st).2 r vs vm vi vp vt->Fm (·=rb) w w'->k (stv (rt 512 st).1) w'):Cl prog 287 [pv rb,iv 512] w k:=by refine(fW h.rd h.len oM).mono ?_;rintro _ w' ⟨rfl,h1,hf⟩;exact hk w' (h.A4 h1 hf (pP oM st).2) hf
theorem HS.list(h:HS w0 w x2 rb r4 x5 st r vs vm vi vp vt){k:KV}(hk:∀v w',HS w0 w' x2 rb r4 x5 (rl 255 st).2 r vs vm vi vp vt->w'.ownsRow w.heap.size 3 1 v (rl 255 st).1.length ((rl 255 st).1.map iv)->Fm (·=rb) w w'->k v w'):Cl prog 322 [pv rb,iv 255] w k:=by refine(uK h.rd h.len).mono ?_;rintro v w' ⟨ho,h1,hf⟩;exact hk v w' (h.A4 h1 hf (yB oM st).2.2) ho hf
theorem HS.put(h:HS w0 w x2 rb r4 x5 st r vs vm vi vp vt){j:Nat}{u:Value}{r':Rc}{vs' vm' vi' vp' vt':Value}(hj:j<16)(hu:u.oneCell'=true)(e:(rcs r vs vm vi vp vt).setIfInBounds j u=rcs r' vs' vm' vi' vp' vt'){k:KV}
  (hk:∀w',HS w0 w' x2 rb r4 x5 st r' vs' vm' vi' vp' vt'->Fm (·=x5) w w'->k undef w'):St 1 w (.pointer (some ⟨x5,j,none⟩)) u k:=by
 have:=h.o1;have:=h.o2;have:=h.o3;have:=h.o4;refine au h.x.h (by show j<16;exact hj) hu ?_;intro w' hw' hs' hf';rw[e] at hw';exact hk w' ⟨hf'.heap h.res oM,h.rd.keep hf' oM,hf'.heap h.rp oM,⟨hw'⟩,Fm.own h.fm hf' (by rintro y rfl;omega),h.o1,h.o2,h.o3,h.o4,h.len⟩ hf'
theorem HS.ret(h:HS w0 w x2 rb r4 x5 st r vs vm vi vp vt)(hone:∀u∈(rcs r vs vm vi vp vt).toList,u.oneCell'=true){k:KV}(hk:∀w',Fm (·=x2) w w'->k (.agg (rcs r vs vm vi vp vt)) w'):
  St 16 w (.pointer (some ⟨x2,0,none⟩)) (.agg (rcs r vs vm vi vp vt)) λu_168 w_169=>Pu (aI w_169 ⟨x2,0,none⟩ 16) (λuu=>k uu w_169):=by
 refine ao h.res rfl rfl hone ?_;intro w' hw' hs' hf';exact yy hw' rfl (hk w' hf')
end
structure Rows (w : World) (b : Nat) (r : Rc) (vs vm vi vp vt : Value) : Prop where
 hs : w.ownsRow b 3 1 vs r.slots.length (r.slots.map iv)
 hm : w.ownsRow b 3 1 vm r.more.length (r.more.map iv)
 hi : ∃ X : List (Int × Pg × Value), X.map (fun x => (x.1, x.2.1)) = r.imgs ∧ w.ownsRow b 233 7 vi X.length (X.flatMap imC) ∧ ∀ x ∈ X, x.2.2.oneCell' = true ∧ w.ownsRow b 9 1 x.2.2 x.2.1.items.length (x.2.1.items.map stv) ∧ PgAs w (pcs x.2.1 x.2.2) x.2.1
 hp : w.ownsRow b 189 2 vp r.pages.length (r.pages.flatMap pc2)
 ht : w.ownsRow b 185 2 vt r.txns.length (r.txns.flatMap pc2)
section
variable{w w':World}{b:Nat}{r:Rc}{vs vm vi vp vt:Value}
theorem il{p:Pg}{v:Value}(ho:w'.ownsRow b 9 1 v p.items.length (p.items.map stv))(h:PgAs w (pcs p v) p):PgAs w' (pcs p v) p:=⟨⟨v,rfl,az ho,CellsAt.aT ho⟩,h.small,h.ins⟩
theorem Rows.keep{S:Nat->Prop}(h:Rows w b r vs vm vi vp vt)(hf:Fm S w w')(hS:∀y,S y->y<b):Rows w' b r vs vm vi vp vt:=by
 have hn:∀k,b<=k->¬S k:=λk hk e=>by have:=hS k e;omega
 obtain⟨X,h1,h2,h3⟩:=h.hi;exact⟨ah h.hs hf (λk hk _ _=>hn k hk),ah h.hm hf (λk hk _ _=>hn k hk),⟨X,h1,ah h2 hf (λk hk _ _=>hn k hk),λx hx=>by obtain⟨q1,q2,q3⟩:=h3 x hx;have q4:=ah q2 hf (λk hk _ _=>hn k hk);exact⟨q1,q4,il q4 q3⟩⟩,ah h.hp hf (λk hk _ _=>hn k hk),ah h.ht hf (λk hk _ _=>hn k hk)⟩
theorem Rows.one(h:Rows w b r vs vm vi vp vt):∀u∈(rcs r vs vm vi vp vt).toList,u.oneCell'=true:=by obtain⟨X,h1,h2,h3⟩:=h.hi;exact kX (az h.hs) (az h.hm) (az h2) (az h.hp) (az h.ht)
theorem Rows.AT(h:Rows w b r vs vm vi vp vt)(hb:Bnd r):RcAs w (rcs r vs vm vi vp vt) r:=by
 obtain⟨X,h1,h2,h3⟩:=h.hi;refine⟨⟨vs,vm,vi,vp,vt,rfl,⟨az h.hs,az h.hm,az h2,az h.hp,az h.ht⟩,CellsAt.aT h.hs,CellsAt.aT h.hm,⟨X,h1,CellsAt.aT h2,λx hx=>⟨(h3 x hx).1,(h3 x hx).2.2⟩⟩,CellsAt.aT h.hp,CellsAt.aT h.ht⟩,λn hn=>?_,?_,?_,?_,hb.lsns⟩
 ·have:=hb.nums n hn;unfold okN at this;unfold In;omega
 ·have:=hb.kind;omega
 ·have:=hb.data;omega
 ·have:=hb.slots;have:=hb.more;have:=hb.imgs;have:=hb.pages;have:=hb.txns;omega
end
def Fx(a:List Int)(t:Bs)(sl mo:List Int)(im:List (Int×Pg))(pg tx:List (Int×Int))(st:St2):Option Rc:=bif decide (vz st.1 st.2=0) then some ⟨gI a 0,gI a 1,gI a 2,gI a 3,gI a 4,gI a 5,gI a 6,gI a 7,gI a 8,gI a 9,t,sl,mo,im,pg,tx⟩ else none
def Fw(a:List Int)(t:Bs)(sl mo:List Int)(im:List (Int×Pg))(pg:List (Int×Int)×St2):Option Rc:=(nM (rn 1024 pg.2).1.toNat (rn 1024 pg.2).2).bind λtx=>Fx a t sl mo im pg.1 tx.1 tx.2
def Fu(a:List Int)(t:Bs)(sl mo:List Int)(im:List (Int×Pg)×St2):Option Rc:=(nM (rn 8192 im.2).1.toNat (rn 8192 im.2).2).bind (Fw a t sl mo im.1)
theorem Dx(a:List Int)(st:St2):uZ a st=(vA (rn 4 (rl 255 (rl 255 (rt 512 st).2).2).2).1.toNat (rn 4 (rl 255 (rl 255 (rt 512 st).2).2).2).2).bind (Fu a (rt 512 st).1 (rl 255 (rt 512 st).2).1 (rl 255 (rl 255 (rt 512 st).2).2).1):=rfl
theorem sT{s:Bs}{x:Rc}(h:cz s=some x):Bnd x:=by
 unfold cz at h;refine Dy h (λi hi h3=>?_) ?_
 ·simp only[ten];have q:∀st,okN (rn 4611686018427387904 st).1:=λst=>⟨(bP _ st).1,by have:=(bP 4611686018427387904 st).2.1;omega⟩;have:i=0\/i=1\/i=2\/i=4\/i=5\/i=6\/i=7\/i=8\/i=9:=oM;rcases this with rfl|rfl|rfl|rfl|rfl|rfl|rfl|rfl|rfl<;>exact q _
 ·simp only[ten];have q:∀st,0<=(rn 13 st).1/\(rn 13 st).1<=13:=λst=>⟨(bP _ st).1,by have:=(bP 13 st).2.1;omega⟩;exact q _
theorem uy(w:World)(s:Bs)(hs:s.length<=1000000):Cl prog 257 [stv s] w λv w'=>∃cs ok,v=.tuple #[.agg cs,.bool ok]/\cs.size=16/\(∀u∈cs.toList,u.oneCell'=true)/\(ok=false->cz s=none)/\(ok=true->∃x vs vm vi vp vt,cz s=some x/\cs=rcs x vs vm vi vp vt/\Rows w' w.heap.size x vs vm vi vp vt)/\Fm (λ_=>False) w w':=by
 refine c257 ?_;refine ae ?_;intro x2 w1 hx2 hs1 hw1 hf1;refine(fK w1 s).mono ?_;rintro _ w2 ⟨rb,rfl,hrb,hrd,hf2⟩;have hz2:=hf2.size;have hrl:=hrd.lt;refine ae ?_;intro r4 w3 hr4 hs3 hw3 hf3;refine au hw3 (by show 0<1;decide) rfl ?_;intro w4 hw4 hs4 hf4;refine ae ?_;intro x5 w5 hx5 hs5 hw5 hf5;have hf35:Fm (λ_=>False) w2 w5:=Fmf (Fm.own hf3 hf4 (by rintro y rfl;omega)) hf5;have h0:HS w w5 x2 rb r4 x5 (s,0) rc0 nl nl nl nl nl:=⟨(Fmf hf2 hf35).heap hw1 id,hrd.keep hf35 id,hf5.heap hw4 id,⟨hw5⟩,Fmf hf1 (Fmf hf2 hf35),oM,oM,oM,oM,hs⟩;have hr0:Rows w5 (x5+1) rc0 nl nl nl nl nl:=⟨World.ownsRow_nil _ _ _ _,World.ownsRow_nil _ _ _ _,⟨[],rfl,World.ownsRow_nil _ _ _ _,sI⟩,World.ownsRow_nil _ _ _ _,World.ownsRow_nil _ _ _ _⟩;have hx5l:=h0.x.lt;clear hw1 hrd hw3 hw4 hw5 hr0;refine h0.num ?_;intro w6 h6a hq6;have i0:=bP 4611686018427387904 (s,0);generalize e0:rn 4611686018427387904 (s,0)=a0 at h6a i0 ⊢;refine h6a.num ?_;intro w7 h7a hq7;have i1:=bP 4611686018427387904 a0.2;generalize e1:rn 4611686018427387904 a0.2=a1 at h7a i1 ⊢;refine h7a.num ?_;intro w8 h8a hq8;have i2:=bP 4611686018427387904 a1.2;generalize e2:rn 4611686018427387904 a1.2=a2 at h8a i2 ⊢
 try simp only[RS]
 refine h8a.put (j:=0) (r':=⟨a0.1,0,0,0,0,0,0,0,0,0,[],[],[],[],[],[]⟩) (vs':=nl) (vm':=nl) (vi':=nl) (vp':=nl) (vt':=nl) oM rfl rfl ?_;intro w9 h9a hq9
 try simp only[RS]
 refine h9a.put (j:=1) (r':=⟨a0.1,a1.1,0,0,0,0,0,0,0,0,[],[],[],[],[],[]⟩) (vs':=nl) (vm':=nl) (vi':=nl) (vp':=nl) (vt':=nl) oM rfl rfl ?_;intro w10 h10a hq10
 try simp only[RS]
 refine h10a.put (j:=2) (r':=⟨a0.1,a1.1,a2.1,0,0,0,0,0,0,0,[],[],[],[],[],[]⟩) (vs':=nl) (vm':=nl) (vi':=nl) (vp':=nl) (vt':=nl) oM rfl rfl ?_;intro w11 h11a hq11;simp only[RS,h11a.cp];refine h11a.o9 oM ?_;intro w12 h12a hq12;have i3:=bP 13 a2.2;generalize e3:rn 13 a2.2=a3 at h12a i3 ⊢;have ek:cvI .u8 (iv a3.1)=some (.int .u8 a3.1):=by show some (Value.int .u8 (IntKind.u8.wrap a3.1))=_;obtain⟨q,hq⟩:=E9 i3.1;have:=i3.2.1;rw[hq,eI,I9 oM]
 simp only[RS,ek]
 try simp only[RS]
 refine h12a.put (j:=3) (r':=⟨a0.1,a1.1,a2.1,a3.1,0,0,0,0,0,0,[],[],[],[],[],[]⟩) (vs':=nl) (vm':=nl) (vi':=nl) (vp':=nl) (vt':=nl) oM rfl rfl ?_;intro w13 h13a hq13;refine h13a.num ?_;intro w14 h14a hq14;have i4:=bP 4611686018427387904 a3.2;generalize e4:rn 4611686018427387904 a3.2=a4 at h14a i4 ⊢;refine h14a.num ?_;intro w15 h15a hq15;have i5:=bP 4611686018427387904 a4.2;generalize e5:rn 4611686018427387904 a4.2=a5 at h15a i5 ⊢;refine h15a.num ?_;intro w16 h16a hq16;have i6:=bP 4611686018427387904 a5.2;generalize e6:rn 4611686018427387904 a5.2=a6 at h16a i6 ⊢;refine h16a.num ?_;intro w17 h17a hq17;have i7:=bP 4611686018427387904 a6.2;generalize e7:rn 4611686018427387904 a6.2=a7 at h17a i7 ⊢;refine h17a.num ?_;intro w18 h18a hq18;have i8:=bP 4611686018427387904 a7.2;generalize e8:rn 4611686018427387904 a7.2=a8 at h18a i8 ⊢;refine h18a.num ?_;intro w19 h19a hq19;have i9:=bP 4611686018427387904 a8.2;generalize e9:rn 4611686018427387904 a8.2=a9 at h19a i9 ⊢
 try simp only[RS]
 refine h19a.put (j:=4) (r':=⟨a0.1,a1.1,a2.1,a3.1,a4.1,0,0,0,0,0,[],[],[],[],[],[]⟩) (vs':=nl) (vm':=nl) (vi':=nl) (vp':=nl) (vt':=nl) oM rfl rfl ?_;intro w20 h20a hq20
 try simp only[RS]
 refine h20a.put (j:=5) (r':=⟨a0.1,a1.1,a2.1,a3.1,a4.1,a5.1,0,0,0,0,[],[],[],[],[],[]⟩) (vs':=nl) (vm':=nl) (vi':=nl) (vp':=nl) (vt':=nl) oM rfl rfl ?_;intro w21 h21a hq21
 try simp only[RS]
 refine h21a.put (j:=6) (r':=⟨a0.1,a1.1,a2.1,a3.1,a4.1,a5.1,a6.1,0,0,0,[],[],[],[],[],[]⟩) (vs':=nl) (vm':=nl) (vi':=nl) (vp':=nl) (vt':=nl) oM rfl rfl ?_;intro w22 h22a hq22
 try simp only[RS]
 refine h22a.put (j:=7) (r':=⟨a0.1,a1.1,a2.1,a3.1,a4.1,a5.1,a6.1,a7.1,0,0,[],[],[],[],[],[]⟩) (vs':=nl) (vm':=nl) (vi':=nl) (vp':=nl) (vt':=nl) oM rfl rfl ?_;intro w23 h23a hq23
 try simp only[RS]
 refine h23a.put (j:=8) (r':=⟨a0.1,a1.1,a2.1,a3.1,a4.1,a5.1,a6.1,a7.1,a8.1,0,[],[],[],[],[],[]⟩) (vs':=nl) (vm':=nl) (vi':=nl) (vp':=nl) (vt':=nl) oM rfl rfl ?_;intro w24 h24a hq24
 try simp only[RS]
 refine h24a.put (j:=9) (r':=⟨a0.1,a1.1,a2.1,a3.1,a4.1,a5.1,a6.1,a7.1,a8.1,a9.1,[],[],[],[],[],[]⟩) (vs':=nl) (vm':=nl) (vi':=nl) (vp':=nl) (vt':=nl) oM rfl rfl ?_;intro w25 h25a hq25;simp only[RS,h25a.cp];refine h25a.text ?_;intro w26 h26a hq26;have it:=pP (most:=512) oM a9.2;generalize et:rt 512 a9.2=at_ at h26a it ⊢
 try simp only[RS]
 refine h26a.put (j:=10) (r':=⟨a0.1,a1.1,a2.1,a3.1,a4.1,a5.1,a6.1,a7.1,a8.1,a9.1,at_.1,[],[],[],[],[]⟩) (vs':=nl) (vm':=nl) (vi':=nl) (vp':=nl) (vt':=nl) oM rfl rfl ?_;intro w27 h27a hq27;have hten:ten s=([a0.1,a1.1,a2.1,a3.1,a4.1,a5.1,a6.1,a7.1,a8.1,a9.1],a9.2):=by simp only[ten,e0,e1,e2,e3,e4,e5,e6,e7,e8,e9]
 have hout:cz s=uZ [a0.1,a1.1,a2.1,a3.1,a4.1,a5.1,a6.1,a7.1,a8.1,a9.1] a9.2:=by unfold cz;rw[hten]
 rw[Dx,et] at hout;have hz27:x5<w27.heap.size:=h27a.x.lt;have hd27:=Fm.drew (λ_=>False) w27;have g0:=h27a.gT hd27 (λ_ e=>e.elim);refine⟨λw'=>w'.heap[r4]?=some (.cells #[pv rb] 371),g0.rp,?_⟩;simp only[RS,h27a.cp,JF];refine⟨pv rb,λw9 h9=>?_,?_⟩
 ·have:w9.cell? ⟨r4,0,none⟩=some (pv rb):=by rw[ab h9];rfl
  simp only[RS,this];trivial
 have hzd:x5<w27.drew.heap.size:=hz27;generalize w27.drew=wd at hd27 g0 hzd;refine g0.list ?_;intro vs w30 g30 ho30 hq30;refine⟨g30.rp,?_⟩;have hz30:=hq30.size
 try simp only[RS]
 refine g30.list ?_;intro vm w31 g31 ho31 hq31;have isl:=yB (most:=255) oM at_.2;generalize rl 255 at_.2=sl at g30 ho30 g31 ho31 hout isl ⊢;have imo:=yB (most:=255) oM sl.2;generalize rl 255 sl.2=mo at g31 ho31 hout imo ⊢;have ho4:=g0.o3;have ho5:=g0.o4;have ho30':=ah ho30 hq31 (λk hk _ _ e=>oM);refine g31.put (j:=11) (r':=⟨a0.1,a1.1,a2.1,a3.1,a4.1,a5.1,a6.1,a7.1,a8.1,a9.1,at_.1,sl.1,[],[],[],[]⟩) (vs':=vs) (vm':=nl) (vi':=nl) (vp':=nl) (vt':=nl) oM (az ho30) rfl ?_;intro w32 g32 hq32
 try simp only[RS]
 refine g32.put (j:=12) (r':=⟨a0.1,a1.1,a2.1,a3.1,a4.1,a5.1,a6.1,a7.1,a8.1,a9.1,at_.1,sl.1,mo.1,[],[],[]⟩) (vs':=vs) (vm':=vm) (vi':=nl) (vp':=nl) (vt':=nl) oM (az ho31) rfl ?_;intro w33 g33 hq33;have hrow:Rows w33 (x5+1) ⟨a0.1,a1.1,a2.1,a3.1,a4.1,a5.1,a6.1,a7.1,a8.1,a9.1,at_.1,sl.1,mo.1,[],[],[]⟩ vs vm nl nl nl:=by refine⟨aU (ah (ah ho30' hq32 (λk hk _ _ e=>oM)) hq33 (λk hk _ _ e=>oM)) oM,aU (ah (ah ho31 hq32 (λk hk _ _ e=>oM)) hq33 (λk hk _ _ e=>oM)) oM,⟨[],rfl,World.ownsRow_nil _ _ _ _,sI⟩,World.ownsRow_nil _ _ _ _,World.ownsRow_nil _ _ _ _⟩
 simp only[RS,g33.cp];refine g33.o9 oM ?_;intro w34 g34 hq34;have ini:=bP 4 mo.2;generalize rn 4 mo.2=ni at g34 hout ini ⊢;have hrow34:=hrow.keep hq34 (λy e=>oM);obtain⟨N,hN⟩:=E9 ini.1;rw[hN,H6] at hout;rw[hN];have hN4:N<=4:=by have:=ini.2.1;omega
 refine⟨λvl w'=>∃(i:Nat) (L:List (Int×Pg)) (st:St2) (vi:Value),vl=[iv i]/\i<=N/\L.length=i/\HS w w' x2 rb r4 x5 st ⟨a0.1,a1.1,a2.1,a3.1,a4.1,a5.1,a6.1,a7.1,a8.1,a9.1,at_.1,sl.1,mo.1,L,[],[]⟩ vs vm vi nl nl/\Rows w' (x5+1) ⟨a0.1,a1.1,a2.1,a3.1,a4.1,a5.1,a6.1,a7.1,a8.1,a9.1,at_.1,sl.1,mo.1,L,[],[]⟩ vs vm vi nl nl/\vA N ni.2=(vA (N - i) st).map λq=>(L++q.1,q.2),λvl _=>(N - nth vl 0).toNat,⟨0,[],ni.2,nl,rfl,oM,rfl,g34,hrow34,by rw[Kl];simp⟩,?_⟩;rintro _ w35 iv35 ⟨i,L,st,vi,hvl,hi,hL,g35,hr35,heq⟩;cases hvl;by_cases hlt:i<N
 ·have d1:decide ((i:Int)<(N:Int))=true:=by rw[C4];omega
  have ei:IntKind.i64.wrap ((i:Int)+1)=((i+1:Nat):Int):=by rw[af]<;>omega
  obtain⟨m,hm⟩:∃m,N - i=m+1:=⟨N - i - 1,oM⟩;have hm1:N - (i+1)=m:=oM;rw[hm,vA] at heq;have hd35:=Fm.drew (λ_=>False) w35;have g36:=g35.gT hd35 (λ_ e=>e.elim);have hr36:=hr35.keep hd35 (λ_ e=>e.elim);simp only[RS,d1];refine⟨λw'=>w'.heap[r4]?=some (.cells #[pv rb] 371),g36.rp,pv rb,λw9 h9=>?_,?_⟩
  ·have:w9.cell? ⟨r4,0,none⟩=some (pv rb):=by rw[ab h9];rfl
   simp only[RS,this];trivial
  generalize w35.drew=w36 at hd35 g36 hr36;refine g36.num ?_;intro w37 g37 hq37;have hr37:=hr36.keep hq37 (λy e=>oM);refine⟨g37.rp,?_⟩;refine g37.text ?_;intro w38 g38 hq38;have hr38:=hr37.keep hq38 (λy e=>oM);have ip:=bP 4611686018427387904 st;generalize rn 4611686018427387904 st=pa at g37 g38 heq ip ⊢;have itt:=pP (most:=512) oM pa.2;generalize rt 512 pa.2=tt at g38 heq itt ⊢;have e5:IntKind.i64.wrap (512 - (tt.1.length:Int))=((512 - tt.1.length:Nat):Int):=by rw[af]<;>omega
  have hmk:ByteArray.mk #[0]=str [0]:=rfl;simp only[RS,aq,e5,hmk];refine(bT w38 (512 - tt.1.length) oM).mono ?_;rintro _ w39 ⟨rfl,hq39⟩;have g39:=g38.gT hq39 (λ_ e=>e.elim);have hr39:=hr38.keep hq39 (λ_ e=>e.elim);rw[mG (by rw[cm];omega)]
  try simp only[RS]
  have hpad:tt.1++aG (512 - tt.1.length)=nG tt.1:=rfl;have hpl:(nG tt.1).length=512:=by unfold nG;rw[C5,cm];omega
  rw[hpad];refine(ke w39 (nG tt.1) oM).mono ?_;rintro _ w40 ⟨pc,rfl,hO40,hq40⟩;have g40:=g39.gT hq40 (λ_ e=>e.elim);have hr40:=hr39.keep hq40 (λ_ e=>e.elim);have hA40:=hO40.as;have hz40:=hq40.size;have hx39:=g39.x.lt;simp only[RS];refine ae ?_;intro x9 w41 hx9 hs41 hw41 hf41;refine ao hw41 rfl hA40.size hA40.one ?_;intro w42 hw42 hs42 hf42;have hf4042:Fm (λ_=>False) w40 w42:=Fm.own hf41 hf42 (by rintro y rfl;omega);have g42:=g40.gT hf4042 (λ_ e=>e.elim);have hr42:=hr40.keep hf4042 (λ_ e=>e.elim);have hO42:=hO40.keep hf4042;have bad:(decide ((dJ (nG tt.1)).2=0)&&decide (tt.2.2=0))=false->cz s=none:=λhb=>by rw[hout,heq,hb];rfl
  have early:∀w',HS w w' x2 rb r4 x5 tt.2 ⟨a0.1,a1.1,a2.1,a3.1,a4.1,a5.1,a6.1,a7.1,a8.1,a9.1,at_.1,sl.1,mo.1,L,[],[]⟩ vs vm vi nl nl->Rows w' (x5+1) ⟨a0.1,a1.1,a2.1,a3.1,a4.1,a5.1,a6.1,a7.1,a8.1,a9.1,at_.1,sl.1,mo.1,L,[],[]⟩ vs vm vi nl nl->cz s=none->Pu (aI w' ⟨x5,0,none⟩ 16) (λt79_166=>
    St 16 w' (.pointer (some ⟨x2,0,none⟩)) t79_166 λu_168 w_169=>
    Pu (aI w_169 ⟨x2,0,none⟩ 16) (λuu=>(λ(v:Value) w'=>∃cs ok,v=.tuple #[.agg cs,.bool ok]/\cs.size=16/\(∀u∈cs.toList,u.oneCell'=true)/\(ok=false->cz s=none)/\(ok=true->∃x vs vm vi vp vt,cz s=some x/\cs=rcs x vs vm vi vp vt/\Rows w' w.heap.size x vs vm vi vp vt)/\Fm (λ_=>False) w w') (Value.tuple #[uu,Value.bool false]) w_169)):=by
   intro w' gg rr hno;simp only[RS,gg.x.all];refine gg.ret rr.one ?_;intro w'' hf'';have:=gg.o1;exact⟨_,_,rfl,rfl,rr.one,λ_=>hno,λe=>(by cases e),Fm.own gg.fm hf'' (by rintro y rfl;omega)⟩
  simp only[RS,aF];cases hz1:decide ((dJ (nG tt.1)).2=0) with
  | false=>simp only[RS];have:=early w42 g42 hr42 (bad (by rw[hz1,Jq]));exact this
  | true=>
  simp only[RS,g42.cp];refine(dq g42.rd).mono ?_;rintro _ w43 ⟨rfl,rfl⟩;simp only[RS,aF];cases hz2:decide (tt.2.2=0) with
  | false=>simp only[RS];have:=early w43 g42 hr42 (bad (by rw[hz2,J7]));exact this
  | true=>
  rw[hz1,hz2] at heq;obtain⟨pv_,rfl,hov⟩:=hO42.ex;have hps:∃a n c,pv_=.slice a n c:=by rcases hov.2 with⟨rfl,_⟩|⟨g,cap,cur,rfl,_⟩<;>exact⟨_,_,_,rfl⟩
  obtain⟨pa1,pn1,pc1,rfl⟩:=hps;simp only[RS,g42.x.c13,aa hw42 hA40.size];refine ag (GC _ _ _ _ _ _) ?_;refine ag (HX _ _ _ _ _ _) ?_;have hf44:=Fm.alloc (λ_=>False) w43 (.cells (imC (pa.1,(dJ (nG tt.1)).1,.slice pa1 pn1 pc1)).toArray 233);have hn44:=ay w43 (.cells (imC (pa.1,(dJ (nG tt.1)).1,.slice pa1 pn1 pc1)).toArray 233);have g44:=g42.gT hf44 (λ_ e=>e.elim);have hr44:=hr42.keep hf44 (λ_ e=>e.elim);have hO44:=ah hov hf44 (λ_ _ _ _ e=>e);have hz44:=hf44.size;generalize w43.alloc (.cells (imC (pa.1,(dJ (nG tt.1)).1,.slice pa1 pn1 pc1)).toArray 233)=w44 at hf44 hn44 g44 hr44 hO44 hz44;have hx44:=g44.x.lt;obtain⟨X,hX1,hX2,hX3⟩:=hr44.hi;have hXl:X.length=i:=by have:=IR List.length hX1;rw[H2] at this;rw[this];exact hL
  obtain⟨vi',w45,hr45,ho45,_,hf45⟩:=mX HI oM hX2 (cs:=imC (pa.1,(dJ (nG tt.1)).1,.slice pa1 pn1 pc1)) hn44 rfl (by intro q hq;simp[imC,pcs] at hq;rcases hq with rfl|rfl|rfl|rfl|rfl|rfl|rfl<;>rfl) oM (by unfold maxLen;omega) oM;refine ag hr45 ?_;have hlt45:=aP hX2;have g45:=g44.gT hf45 (λy hy=>by have:=hlt45 y hy;omega)
  try simp only[RS]
  refine g45.put (j:=13) (r':=⟨a0.1,a1.1,a2.1,a3.1,a4.1,a5.1,a6.1,a7.1,a8.1,a9.1,at_.1,sl.1,mo.1,(L++[(pa.1,(dJ (nG tt.1)).1)]),[],[]⟩) (vs':=vs) (vm':=vm) (vi':=vi') (vp':=nl) (vt':=nl) oM (az ho45) rfl ?_;intro w46 g46 hq46;simp only[RS,ei];refine⟨⟨i+1,L++[(pa.1,(dJ (nG tt.1)).1)],tt.2,vi',rfl,oM,by rw[C5,hL];rfl,g46,?_,?_⟩,by simp only[ba];omega⟩
  ·have q46:∀k,x5+1<=k->¬k=x5:=λk hk e=>by omega
   have a3:=λk hk=>cj hX2 hr44.hs dC k hk;refine⟨ah (ah hr44.hs hf45 (λk _ _ hk e=>cj hX2 hr44.hs dC k e hk)) hq46 (λk hk _ _=>q46 k hk),ah (ah hr44.hm hf45 (λk _ _ hk e=>cj hX2 hr44.hm dC k e hk)) hq46 (λk hk _ _=>q46 k hk),⟨X++[(pa.1,(dJ (nG tt.1)).1,.slice pa1 pn1 pc1)],?_,?_,?_⟩,World.ownsRow_nil _ _ _ _,World.ownsRow_nil _ _ _ _⟩
   ·rw[Kg,hX1];rfl
   ·rw[C5,Jr,G1,Kp,H1];exact ah ho45 hq46 (λk hk _ _=>q46 k hk)
   ·intro x hx;rcases H5.1 hx with hx|hx
    ·obtain⟨q1,q2,q3⟩:=hX3 x hx;have q4:=ah (ah q2 hf45 (λk _ _ hk e=>cj hX2 q2 dC k e hk)) hq46 (λk hk _ _=>q46 k hk);exact⟨q1,q4,il q4 q3⟩
    ·obtain rfl:x=(pa.1,(dJ (nG tt.1)).1,.slice pa1 pn1 pc1):=by simpa using hx
     have q2:=aU hO44 (oM:x5+1<=w39.heap.size);have q4:=ah (ah q2 hf45 (λk _ _ hk e=>cj hX2 q2 dC k e hk)) hq46 (λk hk _ _=>q46 k hk);exact⟨rfl,q4,il q4 hO42.as⟩
  ·rw[heq,hm1];cases vA m tt.2 with
   | none=>rfl
   | some q=>simp
 ·have hie:i=N:=oM;subst hie;have d1:decide ((i:Int)<(i:Int))=false:=sI;rw[Jh,vA] at heq;simp only[I2,H1] at heq;rw[heq,IW] at hout;unfold Fu at hout;simp only at hout;simp only[RS,d1,g35.cp];refine g35.o9 oM ?_;intro w60 g60 hq60;have in60:=bP 8192 st;generalize rn 8192 st=n60 at g60 hout in60 ⊢;have hr60:=hr35.keep hq60 (λy e=>oM);obtain⟨N60,hN60⟩:=E9 in60.1;rw[hN60,H6] at hout;rw[hN60];have hNl60:N60<=8192:=by have:=in60.2.1;omega
  refine⟨λvl w'=>∃(i:Nat) (P:List (Int×Int)) (st:St2) (vx:Value),vl=[iv i]/\i<=N60/\P.length=i/\HS w w' x2 rb r4 x5 st ⟨a0.1,a1.1,a2.1,a3.1,a4.1,a5.1,a6.1,a7.1,a8.1,a9.1,at_.1,sl.1,mo.1,L,P,[]⟩ vs vm vi vx nl/\Rows w' (x5+1) ⟨a0.1,a1.1,a2.1,a3.1,a4.1,a5.1,a6.1,a7.1,a8.1,a9.1,at_.1,sl.1,mo.1,L,P,[]⟩ vs vm vi vx nl/\nM N60 n60.2=(nM (N60 - i) st).map λq=>(P++q.1,q.2),λvl _=>(N60 - nth vl 0).toNat,⟨0,[],n60.2,nl,rfl,oM,rfl,g60,hr60,by rw[Kl];simp⟩,?_⟩;rintro _ w61 iv61 ⟨j,PG1,st61,vx61,hvl,hj,hP,g61,hr61,heq61⟩;cases hvl;by_cases hlt:j<N60
  ·have d2:decide ((j:Int)<(N60:Int))=true:=by rw[C4];omega
   have ei:IntKind.i64.wrap ((j:Int)+1)=((j+1:Nat):Int):=by rw[af]<;>omega
   obtain⟨m,hm⟩:∃m,N60 - j=m+1:=⟨N60 - j - 1,oM⟩;have hm1:N60 - (j+1)=m:=oM;rw[hm,nM] at heq61;simp only[RS,d2,g61.cp];refine(dq g61.rd).mono ?_;rintro _ w50 ⟨rfl,rfl⟩;simp only[RS,aF];cases hz3:decide (st61.2=0) with
   | false=>
    rw[hz3,C8] at heq61;have hno:cz s=none:=by rw[hout,heq61];rfl
    simp only[RS,g61.x.all];refine g61.ret hr61.one ?_;intro w'' hf'';have:=g61.o1;exact⟨_,_,rfl,rfl,hr61.one,λ_=>hno,λe=>(by cases e),Fm.own g61.fm hf'' (by rintro y rfl;omega)⟩
   | true=>
   rw[hz3,D8] at heq61;have hd50:=Fm.drew (λ_=>False) w50;have g51:=g61.gT hd50 (λ_ e=>e.elim);have hr51:=hr61.keep hd50 (λ_ e=>e.elim);simp only[RS];refine⟨λw'=>w'.cell? ⟨x5,14,none⟩=some vx61,g51.x.c14,?_⟩
   try simp only[RS]
   refine⟨vx61,λw9 h9=>?_,?_⟩
   ·simp only[RS,h9];trivial
   generalize w50.drew=w51 at hd50 g51 hr51;refine g51.num ?_;intro w52 g52 hq52;have hr52:=hr51.keep hq52 (λy e=>oM);refine⟨g52.x.c14,?_⟩;refine g52.num ?_;intro w53 g53 hq53;have hr53:=hr52.keep hq53 (λy e=>oM);refine⟨g53.x.c14,?_⟩;generalize rn 4611686018427387904 st61=pa at g52 g53 heq61 ⊢;generalize rn 4611686018427387904 pa.2=pb at g53 heq61 ⊢;refine ag (Ey _ _ _) ⟨rfl,?_⟩;refine ag (Ht _ _ _) ?_;have hf54:=Fm.alloc (λ_=>False) w53 (.cells (pc2 (pa.1,pb.1)).toArray 189);have hn54:=ay w53 (.cells (pc2 (pa.1,pb.1)).toArray 189);have g54:=g53.gT hf54 (λ_ e=>e.elim);have hr54:=hr53.keep hf54 (λ_ e=>e.elim);generalize w53.alloc (.cells (pc2 (pa.1,pb.1)).toArray 189)=w54 at hf54 hn54 g54 hr54;refine⟨g54.x.c14,?_⟩;have hx54:=g54.x.lt;have hh54:w54.ownsRow (x5+1) 189 2 vx61 PG1.length (PG1.flatMap pc2):=hr54.hp;obtain⟨vx',w55,hr55,ho55,_,hf55⟩:=mX Hp oM hh54 (cs:=pc2 (pa.1,pb.1)) hn54 rfl (by intro q hq;simp[pc2] at hq;rcases hq with rfl|rfl<;>rfl) oM (by unfold maxLen;omega) oM;refine ag hr55 ?_;have hlt55:=aP hr54.hp;have g55:=g54.gT hf55 (λy hy=>by have:=hlt55 y hy;omega)
   try simp only[RS]
   refine g55.put (j:=14) (r':=⟨a0.1,a1.1,a2.1,a3.1,a4.1,a5.1,a6.1,a7.1,a8.1,a9.1,at_.1,sl.1,mo.1,L,(PG1++[(pa.1,pb.1)]),[]⟩) (vs':=vs) (vm':=vm) (vi':=vi) (vp':=vx') (vt':=nl) oM (az ho55) rfl ?_;intro w56 g56 hq56;simp only[RS,ei];refine⟨⟨j+1,PG1++[(pa.1,pb.1)],pb.2,vx',rfl,oM,by rw[C5,hP];rfl,g56,?_,?_⟩,by simp only[ba];omega⟩
   ·have q56:∀k,x5+1<=k->¬k=x5:=λk hk e=>by omega
    have hrow56:=ho55;have kk:∀{b1:Nat} {e1:TypeId} {s1:Nat} {v1:Value} {n1:Nat} {y1:List Value},w54.ownsRow (x5+1) e1 s1 v1 n1 y1->189≠e1->w56.ownsRow (x5+1) e1 s1 v1 n1 y1:=λhh he=>ah (ah hh hf55 (λk _ _ hk e=>cj hr54.hp hh he k e hk)) hq56 (λk hk _ _=>q56 k hk);obtain⟨X,hX1,hX2,hX3⟩:=hr54.hi;refine⟨kk (b1:=0) hr54.hs dC,kk (b1:=0) hr54.hm dC,⟨X,hX1,kk (b1:=0) hX2 dC,λx hx=>?_⟩,by show w56.ownsRow _ _ _ _ (PG1++[(pa.1,pb.1)]).length _;rw[C5,Jr,G1,Kp,H1];exact ah ho55 hq56 (λk hk _ _=>q56 k hk),World.ownsRow_nil _ _ _ _⟩;obtain⟨q1,q2,q3⟩:=hX3 x hx;have q4:=kk (b1:=0) q2 dC;exact⟨q1,q4,il q4 q3⟩
   ·rw[heq61,hm1];cases nM m pb.2 with
    | none=>rfl
    | some q=>simp
  have hje:j=N60:=oM;subst hje;have d61:decide ((j:Int)<(j:Int))=false:=sI;rw[Jh,nM] at heq61;simp only[I2,H1] at heq61;rw[heq61,IW] at hout;unfold Fw at hout;simp only at hout;simp only[RS,d61,g61.cp];refine g61.o9 oM ?_;intro w70 g70 hq70;have in70:=bP 1024 st61;generalize rn 1024 st61=n70 at g70 hout in70 ⊢;have hr70:=hr61.keep hq70 (λy e=>oM);obtain⟨N70,hN70⟩:=E9 in70.1;rw[hN70,H6] at hout;rw[hN70];have hNl70:N70<=1024:=by have:=in70.2.1;omega
  refine⟨λvl w'=>∃(i:Nat) (P:List (Int×Int)) (st:St2) (vx:Value),vl=[iv i]/\i<=N70/\P.length=i/\HS w w' x2 rb r4 x5 st ⟨a0.1,a1.1,a2.1,a3.1,a4.1,a5.1,a6.1,a7.1,a8.1,a9.1,at_.1,sl.1,mo.1,L,PG1,P⟩ vs vm vi vx61 vx/\Rows w' (x5+1) ⟨a0.1,a1.1,a2.1,a3.1,a4.1,a5.1,a6.1,a7.1,a8.1,a9.1,at_.1,sl.1,mo.1,L,PG1,P⟩ vs vm vi vx61 vx/\nM N70 n70.2=(nM (N70 - i) st).map λq=>(P++q.1,q.2),λvl _=>(N70 - nth vl 0).toNat,⟨0,[],n70.2,nl,rfl,oM,rfl,g70,hr70,by rw[Kl];simp⟩,?_⟩;rintro _ w71 iv71 ⟨j,TX1,st71,vx71,hvl,hj,hP,g71,hr71,heq71⟩;cases hvl;by_cases hlt:j<N70
  ·have d2:decide ((j:Int)<(N70:Int))=true:=by rw[C4];omega
   have ei:IntKind.i64.wrap ((j:Int)+1)=((j+1:Nat):Int):=by rw[af]<;>omega
   obtain⟨m,hm⟩:∃m,N70 - j=m+1:=⟨N70 - j - 1,oM⟩;have hm1:N70 - (j+1)=m:=oM;rw[hm,nM] at heq71;simp only[RS,d2,g71.cp];refine(dq g71.rd).mono ?_;rintro _ w50 ⟨rfl,rfl⟩;simp only[RS,aF];cases hz3:decide (st71.2=0) with
   | false=>
    rw[hz3,C8] at heq71;have hno:cz s=none:=by rw[hout,heq71];rfl
    simp only[RS,g71.x.all];refine g71.ret hr71.one ?_;intro w'' hf'';have:=g71.o1;exact⟨_,_,rfl,rfl,hr71.one,λ_=>hno,λe=>(by cases e),Fm.own g71.fm hf'' (by rintro y rfl;omega)⟩
   | true=>
   rw[hz3,D8] at heq71;have hd50:=Fm.drew (λ_=>False) w50;have g51:=g71.gT hd50 (λ_ e=>e.elim);have hr51:=hr71.keep hd50 (λ_ e=>e.elim);simp only[RS];refine⟨λw'=>w'.cell? ⟨x5,15,none⟩=some vx71,g51.x.c15,?_⟩
   try simp only[RS]
   refine⟨vx71,λw9 h9=>?_,?_⟩
   ·simp only[RS,h9];trivial
   generalize w50.drew=w51 at hd50 g51 hr51;refine g51.num ?_;intro w52 g52 hq52;have hr52:=hr51.keep hq52 (λy e=>oM);refine⟨g52.x.c15,?_⟩;refine g52.num ?_;intro w53 g53 hq53;have hr53:=hr52.keep hq53 (λy e=>oM);refine⟨g53.x.c15,?_⟩;generalize rn 4611686018427387904 st71=pa at g52 g53 heq71 ⊢;generalize rn 4611686018427387904 pa.2=pb at g53 heq71 ⊢;refine ag (GD _ _ _) ⟨rfl,?_⟩;refine ag (HY _ _ _) ?_;have hf54:=Fm.alloc (λ_=>False) w53 (.cells (pc2 (pa.1,pb.1)).toArray 185);have hn54:=ay w53 (.cells (pc2 (pa.1,pb.1)).toArray 185);have g54:=g53.gT hf54 (λ_ e=>e.elim);have hr54:=hr53.keep hf54 (λ_ e=>e.elim);generalize w53.alloc (.cells (pc2 (pa.1,pb.1)).toArray 185)=w54 at hf54 hn54 g54 hr54;refine⟨g54.x.c15,?_⟩;have hx54:=g54.x.lt;have hh54:w54.ownsRow (x5+1) 185 2 vx71 TX1.length (TX1.flatMap pc2):=hr54.ht;obtain⟨vx',w55,hr55,ho55,_,hf55⟩:=mX HJ oM hh54 (cs:=pc2 (pa.1,pb.1)) hn54 rfl (by intro q hq;simp[pc2] at hq;rcases hq with rfl|rfl<;>rfl) oM (by unfold maxLen;omega) oM;refine ag hr55 ?_;have hlt55:=aP hr54.ht;have g55:=g54.gT hf55 (λy hy=>by have:=hlt55 y hy;omega)
   try simp only[RS]
   refine g55.put (j:=15) (r':=⟨a0.1,a1.1,a2.1,a3.1,a4.1,a5.1,a6.1,a7.1,a8.1,a9.1,at_.1,sl.1,mo.1,L,PG1,(TX1++[(pa.1,pb.1)])⟩) (vs':=vs) (vm':=vm) (vi':=vi) (vp':=vx61) (vt':=vx') oM (az ho55) rfl ?_;intro w56 g56 hq56;simp only[RS,ei];refine⟨⟨j+1,TX1++[(pa.1,pb.1)],pb.2,vx',rfl,oM,by rw[C5,hP];rfl,g56,?_,?_⟩,by simp only[ba];omega⟩
   ·have q56:∀k,x5+1<=k->¬k=x5:=λk hk e=>by omega
    have hrow56:=ho55;have kk:∀{b1:Nat} {e1:TypeId} {s1:Nat} {v1:Value} {n1:Nat} {y1:List Value},w54.ownsRow (x5+1) e1 s1 v1 n1 y1->185≠e1->w56.ownsRow (x5+1) e1 s1 v1 n1 y1:=λhh he=>ah (ah hh hf55 (λk _ _ hk e=>cj hr54.ht hh he k e hk)) hq56 (λk hk _ _=>q56 k hk);obtain⟨X,hX1,hX2,hX3⟩:=hr54.hi;refine⟨kk (b1:=0) hr54.hs dC,kk (b1:=0) hr54.hm dC,⟨X,hX1,kk (b1:=0) hX2 dC,λx hx=>?_⟩,kk (b1:=0) hr54.hp dC,by show w56.ownsRow _ _ _ _ (TX1++[(pa.1,pb.1)]).length _;rw[C5,Jr,G1,Kp,H1];exact ah ho55 hq56 (λk hk _ _=>q56 k hk)⟩;obtain⟨q1,q2,q3⟩:=hX3 x hx;have q4:=kk (b1:=0) q2 dC;exact⟨q1,q4,il q4 q3⟩
   ·rw[heq71,hm1];cases nM m pb.2 with
    | none=>rfl
    | some q=>simp
  have hje:j=N70:=oM;subst hje;have d71:decide ((j:Int)<(j:Int))=false:=sI;rw[Jh,nM] at heq71;simp only[I2,H1] at heq71;rw[heq71,IW] at hout;unfold Fx at hout;simp only at hout;have hd71:=Fm.drew (λ_=>False) w71;have g72:=g71.gT hd71 (λ_ e=>e.elim);have hr72:=hr71.keep hd71 (λ_ e=>e.elim);simp only[RS,d71];refine⟨λw'=>RB w' x5 ⟨a0.1,a1.1,a2.1,a3.1,a4.1,a5.1,a6.1,a7.1,a8.1,a9.1,at_.1,sl.1,mo.1,L,PG1,TX1⟩ vs vm vi vx61 vx71,g72.x,.agg (rcs ⟨a0.1,a1.1,a2.1,a3.1,a4.1,a5.1,a6.1,a7.1,a8.1,a9.1,at_.1,sl.1,mo.1,L,PG1,TX1⟩ vs vm vi vx61 vx71),λw9 h9=>?_,?_⟩
  ·simp only[RS,h9.all];trivial
  simp only[RS,g71.cp];generalize w71.drew=w72 at hd71 g72 hr72;refine(gO g72.rd).mono ?_;rintro _ w73 ⟨rfl,rfl⟩;refine⟨g72.x,?_⟩;simp only[RS,aV];refine g72.ret hr72.one ?_;intro w74 hf74;have ho1:=g72.o1;have ho2:=g72.o2;have ho3:=g72.o3;refine⟨_,_,rfl,rfl,hr72.one,λe=>?_,λe=>?_,Fm.own g72.fm hf74 (by rintro y rfl;omega)⟩
  ·rw[hout,e];rfl
  ·rw[e,D8] at hout;have hr74:=hr72.keep hf74 (λy e=>oM);have b74:∀{e1:TypeId} {s1:Nat} {v1:Value} {n1:Nat} {y1:List Value},w74.ownsRow (x5+1) e1 s1 v1 n1 y1->w74.ownsRow w.heap.size e1 s1 v1 n1 y1:=λhh=>aU hh (by have:=g72.o4;omega);obtain⟨X,hX1,hX2,hX3⟩:=hr74.hi;exact⟨_,_,_,_,_,_,hout,rfl,b74 hr74.hs,b74 hr74.hm,⟨X,hX1,b74 hX2,λx hx=>⟨(hX3 x hx).1,b74 (hX3 x hx).2.1,(hX3 x hx).2.2⟩⟩,b74 hr74.hp,b74 hr74.ht⟩
def RdOk(w:World)(b:Nat)(cs:Array Value):Option Rc->Prop
 | none=>cs=rcs rc0 nl nl nl nl nl
 | some x=>∃vs vm vi vp vt,cs=rcs x vs vm vi vp vt/\Rows w b x vs vm vi vp vt/\Bnd x
theorem Hk(w:World)(b:Nat):Rows w b rc0 nl nl nl nl nl:=⟨World.ownsRow_nil _ _ _ _,World.ownsRow_nil _ _ _ _,⟨[],rfl,World.ownsRow_nil _ _ _ _,sI⟩,World.ownsRow_nil _ _ _ _,World.ownsRow_nil _ _ _ _⟩
theorem HV:Bnd rc0:=⟨by intro n hn;simp[rNums,rc0,prs] at hn;subst hn;unfold okN;omega,by simp[rc0],by simp[rc0],by simp[rc0],by simp[rc0],by simp[rc0],by simp[rc0],by simp[rc0],by simp[rc0]⟩
theorem RdOk.as{w:World}{b:Nat}{cs:Array Value}{o:Option Rc}(h:RdOk w b cs o):RcAs w cs (o.getD rc0):=by
 cases o with
 | none=>have h:cs=rcs rc0 nl nl nl nl nl:=h;subst h;exact(Hk w b).AT HV
 | some x=>obtain⟨vs,vm,vi,vp,vt,rfl,h1,h2⟩:=h;exact h1.AT h2
theorem pJ(w:World)(d:Bs)(hd:d.length<=1000000000000000):Cl prog 169 [stv d] w λv w'=>∃cs,v=.tuple #[.agg cs,iv (gi d).2.1,iv (gi d).2.2]/\RdOk w' w.heap.size cs (gi d).1/\Fm (λ_=>False) w w':=by
 refine c169 ?_;refine ae ?_;intro x2 w1 hx2 hs1 hw1 hf1;have hw1':w1.heap[x2]?=some (.cells (rcs rc0 nl nl nl nl nl) 168):=hw1;clear hw1;have one0:∀u∈(rcs rc0 nl nl nl nl nl).toList,u.oneCell'=true:=kX rfl rfl rfl rfl rfl;have bad:∀(w':World) (e:Int),w'.heap[x2]?=some (.cells (rcs rc0 nl nl nl nl nl) 168)->Fm (λ_=>False) w w'->gi d=(none,0,e) ->
   RunS prog (Instr.build 168 #[]) w' (λt14_5 w_6=>
   St 16 w_6 (pv x2) t14_5 λu_7 w_8=>
   Pu (aI w_8 ⟨x2,0,none⟩ 16) (λuu=>(λ(v:Value) w'=>∃cs,v=.tuple #[.agg cs,iv (gi d).2.1,iv (gi d).2.2]/\RdOk w' w.heap.size cs (gi d).1/\Fm (λ_=>False) w w') (Value.tuple #[uu,Value.int .i64 0,Value.int .i64 e]) w_8)):=by
  intro w' e hw' hF hr;refine ag (Bp _) ?_;refine ao hw' rfl rfl one0 ?_;intro w2 hw2 hs2 hf2;refine yy hw2 rfl ⟨_,by rw[hr];rfl,by rw[hr];rfl,Fm.own hF hf2 (by rintro y rfl;omega)⟩
 have hb:gi d=(bif decide (d.length<8) then(none,0,40)
  else bif decide (ofN (d.take 4)=0)||decide (65535<ofN (d.take 4)) then(none,0,41)
  else bif decide (d.length<8+ofN (d.take 4)) then(none,0,40)
  else bif !decide (ofN ((d.drop 4).take 4)=crc ((d.drop 8).take (ofN (d.take 4)))) then(none,0,30)
  else match cz ((d.drop 8).take (ofN (d.take 4))) with
   | none=>(none,0,41)
   | some x=>bif decide ((rCheck x).2=0)&&decide ((rCheck x).1=(d.drop 8).take (ofN (d.take 4))) then(some x,8+ofN (d.take 4),0) else(none,0,41):Option Rc×Nat×Int):=rfl
 have d8:decide ((d.length:Int)<8)=decide (d.length<8):=by rw[G9];omega
 simp only[RS,aq,d8];cases h1:decide (d.length<8) with
 | true=>simp only[RS];exact bad w1 40 hw1' hf1 (by rw[hb,h1];rfl)
 | false=>
 have h8:8<=d.length:=by rw[C7] at h1;omega
 have s1:=gl (l:=d) (i:=4) oM .i64;have s1':slS (stv d) none (some (Value.int .i64 4))=some (stv (d.take 4)):=s1;simp only[RS,s1'];refine(cX w1 (d.take 4) (by rw[E5];omega)).mono ?_;rintro _ w2 ⟨rfl,rfl⟩;have hn32:ofN (d.take 4)<4294967296:=by have:=py 4 (d.take 4) (by rw[E5];omega);rw[dX (by rw[E5];omega)];omega
 rw[h1,C8] at hb;generalize hn:ofN (d.take 4)=n at hb hn32 ⊢;have e0:((n:Int) == 0)=decide (n=0):=by rw[aV,G9];omega
 have e1:decide ((65535:Int)<(n:Int))=decide (65535<n):=by rw[G9];omega
 simp only[RS,e0];cases h2:decide (n=0) with
 | true=>simp only[RS];exact bad w2 41 hw1' hf1 (by rw[hb,h2];rfl)
 | false=>
 simp only[RS,e1];cases h3:decide (65535<n) with
 | true=>simp only[RS];exact bad w2 41 hw1' hf1 (by rw[hb,h2,h3];rfl)
 | false=>
 rw[h2,h3,Bool.or_false,C8] at hb;rw[C7] at h2 h3;have e2:IntKind.i64.wrap (8+(n:Int))=((8+n:Nat):Int):=by rw[af]<;>omega
 have e3:decide ((d.length:Int)<((8+n:Nat):Int))=decide (d.length<8+n):=by rw[G9];omega
 simp only[RS,e2,e3];cases h4:decide (d.length<8+n) with
 | true=>simp only[RS];exact bad w2 40 hw1' hf1 (by rw[hb,h4];rfl)
 | false=>
 rw[h4,C8] at hb;rw[C7] at h4;have s2:=mH (l:=d) (i:=8) (j:=8+n) oM oM .i64 .i64;rw[(oM:8+n - 8=n)] at s2;have s2':slS (stv d) (some (Value.int .i64 8)) (some (iv ((8+n:Nat):Int)))=some (stv ((d.drop 8).take n)):=s2;have s3:=mH (l:=d) (i:=4) (j:=8) oM oM .i64 .i64;have s3':slS (stv d) (some (Value.int .i64 4)) (some (Value.int .i64 8))=some (stv ((d.drop 4).take 4)):=s3;have hbl:((d.drop 8).take n).length=n:=by rw[E5,G4];omega
 simp only[RS,s2',s3'];generalize hB:(d.drop 8).take n=B at hb hbl ⊢;refine(cX w2 ((d.drop 4).take 4) (by rw[E5];omega)).mono ?_;rintro _ w3 ⟨rfl,rfl⟩;refine(jL w3 B oM).mono ?_;rintro _ w4 ⟨rfl,rfl⟩;obtain⟨q1,q2⟩:=so B;have e4:decide ((ofN ((d.drop 4).take 4):Int)=(crc B:Nat))=decide (ofN ((d.drop 4).take 4)=crc B):=by rw[G9];omega
 simp only[RS,bN,q2,aF,e4];cases h5:decide (ofN ((d.drop 4).take 4)=crc B) with
 | false=>simp only[RS];exact bad w4 30 hw1' hf1 (by rw[hb,h5];rfl)
 | true=>
 rw[h5,JE,C8] at hb;simp only[RS];refine(uy w4 B oM).mono ?_;rintro _ w5 ⟨cs,ok,rfl,hsz,hone,hno,hyes,hf5⟩;have hx5:=hf5.heap hw1' id;have hF5:=Fmf hf1 hf5;have hz5:=hF5.size;simp only[RS];refine ae ?_;intro x7 w6 hx7 hs6 hw6 hf6;refine ao hw6 rfl hsz hone ?_;intro w7 hw7 hs7 hf7;have hf57:Fm (λ_=>False) w5 w7:=Fm.own hf6 hf7 (by rintro y rfl;omega);have hx7':=hf57.heap hx5 id;have hF7:=Fmf hF5 hf57;cases ok with
 | false=>simp only[RS];exact bad w7 41 hx7' hF7 (by rw[hb,hno rfl])
 | true=>
 obtain⟨x,vs,vm,vi,vp,vt,hx,rfl,hrow⟩:=hyes rfl;have hbd:=sT hx;have hr7:=hrow.keep hf57 (λ_ e=>e.elim);rw[hx] at hb;simp only at hb;simp only[RS,aa hw7 hsz];refine(je (hr7.AT hbd)).mono ?_;rintro _ w8 ⟨rfl,hf8⟩;have hx8:=hf8.heap hx7' id;have hq8:=hf8.heap hw7 id;have hF8:=Fmf hF7 hf8;have hr8:=hr7.keep hf8 (λ_ e=>e.elim);have hz7:=hF7.size;simp only[RS,aF];cases h6:decide ((rCheck x).2=0) with
 | false=>simp only[RS];exact bad w8 41 hx8 hF8 (by rw[hb,h6];rfl)
 | true=>
 rw[h6,JD] at hb;simp only[RS,br];cases h7:decide ((rCheck x).1=B) with
 | false=>simp only[RS];exact bad w8 41 hx8 hF8 (by rw[hb,h7];rfl)
 | true=>
 rw[h7,D8] at hb;simp only[RS,aa hq8 hsz];refine ao hx8 rfl rfl hone ?_;intro w9 hw9 hs9 hf9;refine yy hw9 rfl ⟨_,by rw[hb],?_,Fm.own hF8 hf9 (by rintro y rfl;omega)⟩;rw[hb];have hwsz:w.heap.size<=w4.heap.size:=hf1.size;have b9:∀{e1:TypeId} {s1:Nat} {v1:Value} {n1:Nat} {y1:List Value},w9.ownsRow w4.heap.size e1 s1 v1 n1 y1->w9.ownsRow w.heap.size e1 s1 v1 n1 y1:=λhh=>aU hh hwsz;have hr9:=hr8.keep hf9 (λy e=>oM);obtain⟨X,hX1,hX2,hX3⟩:=hr9.hi;exact⟨vs,vm,vi,vp,vt,rfl,⟨b9 hr9.hs,b9 hr9.hm,⟨X,hX1,b9 hX2,λx hx=>⟨(hX3 x hx).1,b9 (hX3 x hx).2.1,(hX3 x hx).2.2⟩⟩,b9 hr9.hp,b9 hr9.ht⟩,hbd⟩
theorem wD(r:Rc):10<=(fp r).length:=by
 have q:∀n:Int,1<=(bF n).length:=λn=>by
  unfold bF;by_cases h:127<(max n 0).toNat
  ·rw[gU h];simp
  ·rw[dj oM];simp
 have e:fp r=bF r.lsn++(bF r.prev++(bF r.next++(bF r.kind++(bF r.xid++(bF r.page++(bF r.slot++(bF r.old++(bF r.new++(bF r.redo++(iK r.data++dU r.slots++dU r.more++bF r.imgs.length++r.imgs.flatMap sJ++bF r.pages.length++r.pages.flatMap prB++bF r.txns.length++r.txns.flatMap prB)))))))))):=by simp[fp,cu,iR]
 have h:=IR List.length e;simp only[C5] at h;have:=q r.lsn;have:=q r.prev;have:=q r.next
 have:=q r.kind;have:=q r.xid;have:=q r.page;have:=q r.slot;have:=q r.old;have:=q r.new;have:=q r.redo;omega
theorem sQ{n:Nat}(h:n<4294967296):ofN (beN 4 n)=n:=by rw[dX (by rw[aH];omega),iX,I9 oM]
theorem yn{r:Rc}(h:(rCheck r).2=0)(hl:∀m∈r.imgs,m.2.lsn<=9223372036854775807):lF r=(beN 4 (fp r).length++beN 4 (crc (fp r))++fp r,0):=by have h2:=(ir h hl).2.2.1;unfold lF;rw[h,h2];rfl
theorem AJ(r:Rc):(lF r).2=(rCheck r).2:=by
 unfold lF;cases h:decide ((rCheck r).2=0) with
 | true=>rw[C4] at h;rw[h];rfl
 | false=>rfl
theorem sr{b t:Bs}(hb:b.length<=65535):(beN 4 b.length++beN 4 (crc b)++b++t).take 4=beN 4 b.length/\((beN 4 b.length++beN 4 (crc b)++b++t).drop 4).take 4=beN 4 (crc b)/\((beN 4 b.length++beN 4 (crc b)++b++t).drop 8).take b.length=b/\(beN 4 b.length++beN 4 (crc b)++b++t).length=8+b.length+t.length:=by have e1:beN 4 b.length++beN 4 (crc b)++b++t=beN 4 b.length++(beN 4 (crc b)++(b++t)):=sI;have l1:=aH 4 b.length;have l2:=aH 4 (crc b);refine⟨by rw[e1,List.take_left' l1],by rw[e1,Kw l1,List.take_left' l2],?_,by rw[e1];simp only[C5,l1,l2];omega⟩;have e2:beN 4 b.length++beN 4 (crc b)++b++t=(beN 4 b.length++beN 4 (crc b))++(b++t):=sI;rw[e2,Kw (by rw[C5,l1,l2]),List.take_left]
theorem Aa{r:Rc}(h:(rCheck r).2=0)(hl:∀m∈r.imgs,m.2.lsn<=9223372036854775807)(t:Bs):gi ((lF r).1++t)=(some r,(lF r).1.length,0):=by
 obtain⟨hg,_,hb,hlen⟩:=ir h hl;have hne:=wD r;have ho:=xU hg;rw[yn h hl];simp only;generalize fp r=b at hlen hne ho hb;obtain⟨h1,h2,h3,h4⟩:=sr (b:=b) (t:=t) hlen;have h5:=(sr (b:=b) (t:=[]) hlen).2.2.2;rw[H1,Ja,Jt] at h5;have hcl:=Br b;unfold gi;rw[h1,h2,h4,h5,sQ oM,h3,sQ oM,C3 (oM:¬8+b.length+t.length<8),C3 (oM:¬b.length=0),C3 (oM:¬65535<b.length),C3 (oM:¬8+b.length+t.length<8+b.length),C9 rfl,ho];simp only[C8,Bool.or_false,JE];rw[h,hb,C9 rfl,C9 rfl]
 rfl
theorem wQ{d:Bs}{x:Rc}(h:(gi d).1=some x):(rCheck x).2=0/\(gi d).2.2=0/\(gi d).2.1=(lF x).1.length/\(gi d).2.1<=d.length/\d.take (gi d).2.1=(lF x).1/\Bnd x:=by
 unfold gi at h ⊢;cases h1:decide (d.length<8) with
 | true=>rw[h1] at h;cases h
 | false=>
 rw[h1,C8] at h;rw[C7] at h1;have hn:ofN (d.take 4)=ofB (d.take 4):=dX (by rw[E5];omega);have hc4:ofN ((d.drop 4).take 4)=ofB ((d.drop 4).take 4):=dX (by rw[E5];omega);have l4:(d.take 4).length=4:=by rw[E5];omega
 have l5:((d.drop 4).take 4).length=4:=by rw[E5,G4];omega
 have g1:=eW 4 (d.take 4) l4;have g2:=eW 4 ((d.drop 4).take 4) l5;rw[<- hn] at g1;rw[<- hc4] at g2;generalize ofN (d.take 4)=n at h g1 ⊢;cases h2:decide (n=0)||decide (65535<n) with
 | true=>rw[h2] at h;cases h
 | false=>
 rw[h2,C8] at h;cases h3:decide (d.length<8+n) with
 | true=>rw[h3] at h;cases h
 | false=>
 rw[h3,C8] at h;rw[C7] at h3;cases h4:decide (ofN ((d.drop 4).take 4)=crc ((d.drop 8).take n)) with
 | false=>rw[h4] at h;cases h
 | true=>
 rw[h4,JE,C8] at h;rw[C4] at h4;have hbl:((d.drop 8).take n).length=n:=by rw[E5,G4];omega
 have hcut:d.take (8+n)=d.take 4++(d.drop 4).take 4++(d.drop 8).take n:=by rw[List.take_add,(oM:(8:Nat)=4+4),List.take_add]
 cases ho:cz ((d.drop 8).take n) with
 | none=>rw[ho] at h;cases h
 | some y=>
  rw[ho] at h;simp only at h;cases h5:decide ((rCheck y).2=0)&&decide ((rCheck y).1=(d.drop 8).take n) with
  | false=>rw[h5] at h;cases h
  | true=>
   rw[h5,D8] at h;cases h;rw[E0,C4,C4] at h5;have hbd:=sT ho;simp only[C8,JE];simp only[h5.1,h5.2,Jm,JN,D8];have hE:(lF x).1=d.take 4++(d.drop 4).take 4++(d.drop 8).take n:=by unfold lF;rw[h5.1,C9 rfl,D8,h5.2,hbl,g1,<- h4,g2]
   refine⟨trivial,trivial,?_,oM,by rw[hE,hcut],hbd⟩;rw[hE,<- hcut,E5];omega
theorem Ab{d:Bs}(h:(gi d).1=none):(gi d).2.1=0/\((gi d).2.2=40\/(gi d).2.2=41\/(gi d).2.2=30):=by
 unfold gi at h ⊢;cases h1:decide (d.length<8) with
 | true=>exact⟨rfl,.inl rfl⟩
 | false=>
 rw[h1,C8] at h;cases h2:decide (ofN (d.take 4)=0)||decide (65535<ofN (d.take 4)) with
 | true=>exact⟨rfl,.inr (.inl rfl)⟩
 | false=>
 rw[h2,C8] at h;cases h3:decide (d.length<8+ofN (d.take 4)) with
 | true=>exact⟨rfl,.inl rfl⟩
 | false=>
 rw[h3,C8] at h;cases h4:decide (ofN ((d.drop 4).take 4)=crc ((d.drop 8).take (ofN (d.take 4)))) with
 | false=>exact⟨rfl,.inr (.inr rfl)⟩
 | true=>
 rw[h4,JE,C8] at h;simp only[C8,JE];cases ho:cz ((d.drop 8).take (ofN (d.take 4))) with
 | none=>exact⟨rfl,.inr (.inl rfl)⟩
 | some y=>
  rw[ho] at h;simp only at h ⊢;cases h5:decide ((rCheck y).2=0)&&decide ((rCheck y).1=(d.drop 8).take (ofN (d.take 4))) with
  | false=>exact⟨rfl,.inr (.inl rfl)⟩
  | true=>rw[h5,D8] at h;cases h
end Go.Proofs.YtmdmffeoehfjgaaGreatDoor
namespace Go.Al
structure Dk where
 cur : List Bs
 old : List Bs
 chg : List Bool
 armed : Int
 gone : Bool
 done : Int
namespace Dk
def zsec:Bs:=List.replicate 64 0
def mk0(n:Nat):Dk:=⟨List.replicate n zsec,List.replicate n zsec,List.replicate n false,0,false,0⟩
def isC(chg:List Bool)(i:Nat):Bool:=chg.getD i false
structure Wf (d : Dk) : Prop where
 n1 : d.cur.length ≤ 65536
 lo : d.old.length = d.cur.length
 lc : d.chg.length = d.cur.length
 s1 : ∀ x ∈ d.cur, x.length = 64
 s2 : ∀ x ∈ d.old, x.length = 64
 same : ∀ i, isC d.chg i = false → d.old[i]? = d.cur[i]?
 ar : 0 ≤ d.armed ∧ d.armed ≤ 9223372036854775807
def tick(d:Dk):Dk:=if 0<d.armed then { d with done:=IntKind.i64.wrap (d.done+1),armed:=d.armed - 1,gone:=decide (d.armed - 1=0) } else { d with done:=IntKind.i64.wrap (d.done+1) }
def put(d:Dk)(i:Nat)(x:Bs):Dk:={ d with cur:=d.cur.set i x,chg:=d.chg.set i true }
def wr:Dk->Nat->List Bs->Dk×Int
 | d,_,[]=>(d,0)
 | d,i,x::l=>let d':=(d.put i x).tick;bif d'.gone then(d',5) else wr d' (i+1) l
def chunks:Nat->Bs->List Bs
 | 0,_=>[]
 | k+1,s=>s.take 64::chunks k (s.drop 64)
def has(d:Dk)(a k:Int):Bool:=decide (0<=a/\0<=k/\a<=d.cur.length/\k<=d.cur.length - a)
def write(d:Dk)(a:Int)(s:Bs):Dk×Int:=bif d.gone then(d,5) else bif decide (s.length % 64≠0)||!(d.has a (s.length / 64:Nat)) then(d,20) else d.wr a.toNat (chunks (s.length / 64) s)
def read(d:Dk)(a k:Int):Bs×Int:=bif d.gone then([],5) else bif !(d.has a k) then([],20) else(((d.cur.drop a.toNat).take k.toNat).flatten,0)
def sync(d:Dk):Dk×Int:=bif d.gone then(d,5) else let d':=d.tick;bif d'.gone then(d',5) else({ d' with old:=d'.cur,chg:=List.replicate d'.cur.length false },0)
def pend(d:Dk):List Nat:=(List.range d.cur.length).filter (isC d.chg)
def rank(chg:List Bool)(i:Nat):Nat:=((List.range i).filter (isC chg)).length
def fold1(f:Int):Int:=if f<0 then -(f+1) else f
def fate(how:List Int)(k:Nat):Int:=match how[k]? with
 | some f=>fold1 f
 | none=>0
def kept(f:Int):Nat:=if f % 3=0 then 0 else if f % 3=1 then 64 else(f / 3 % 65).toNat
def torn(f:Int)(x y:Bs):Bs:=x.take (kept f)++y.drop (kept f)
def EU(how:List Int)(d:Dk)(i:Nat):Bs:=bif isC d.chg i then torn (fate how (rank d.chg i)) (d.cur.getD i []) (d.old.getD i []) else d.cur.getD i []
def mended(how:List Int)(d:Dk):List Bs:=(List.range d.cur.length).map (EU how d)
def crash(d:Dk)(how:List Int):Dk:={ cur:=mended how d,old:=mended how d,chg:=List.replicate d.cur.length false,armed:=0,gone:=false,done:=d.done }
theorem isC_rep(n i:Nat):isC (List.replicate n false) i=false:=by unfold isC;simp only[G6,J5];split<;>rfl
theorem isC_set(c:List Bool)(i j:Nat)(h:i<c.length):isC (c.set i true) j=if i=j then true else isC c j:=by
 unfold isC;simp only[G6,Kn];split
 ·rename_i e;subst e;simp[]
 ·rfl
theorem isC_lt{c:List Bool}{i:Nat}(h:isC c i=true):i<c.length:=by
 unfold isC at h;rcases KL i c.length with hl|hl
 ·exact hl
 ·rw[G6,Jc hl] at h;cases h
theorem wf_mk0{n:Nat}(h:n<=65536):(mk0 n).Wf where
 n1:=by simpa[mk0] using h
 lo:=by simp[mk0]
 lc:=by simp[mk0]
 s1:=by intro x hx;simp[mk0] at hx;rw[hx.2];rfl
 s2:=by intro x hx;simp[mk0] at hx;rw[hx.2];rfl
 same:=λi _=>rfl
 ar:=⟨by simp[mk0],by simp[mk0]⟩
theorem tick_cur(d:Dk):d.tick.cur=d.cur/\d.tick.old=d.old/\d.tick.chg=d.chg:=by unfold tick;split<;>exact⟨rfl,rfl,rfl⟩
theorem Wf.tick{d:Dk}(h:d.Wf):d.tick.Wf:=by
 obtain⟨h1,h2,h3,h4,h5,h6,h7⟩:=h;unfold Dk.tick;split
 ·exact⟨h1,h2,h3,h4,h5,h6,⟨by simp only;omega,by simp only;omega⟩⟩
 ·exact⟨h1,h2,h3,h4,h5,h6,h7⟩
theorem Wf.put{d:Dk}(h:d.Wf)(i:Nat){x:Bs}(hx:x.length=64):(d.put i x).Wf where
 n1:=by simpa[Dk.put] using h.n1
 lo:=by simpa[Dk.put] using h.lo
 lc:=by simpa[Dk.put] using h.lc
 s1:=by
  intro y hy
  rcases JC hy with hy|rfl
  ·exact h.s1 y hy
  ·exact hx
 s2:=h.s2
 same:=by
  intro j hj
  rcases KL i d.chg.length with hl|hl
  ·simp only[Dk.put] at hj ⊢
   rw[isC_set _ _ _ hl] at hj
   split at hj
   ·cases hj
   ·rename_i hne
    rw[JY hne];exact h.same j hj
  ·simp only[Dk.put] at hj ⊢
   rw[List.set_eq_of_length_le hl] at hj
   rw[List.set_eq_of_length_le (by rw[<- h.lc];exact hl)]
   exact h.same j hj
 ar:=h.ar
theorem Wf.sync{d:Dk}(h:d.Wf):d.sync.1.Wf:=by
 unfold Dk.sync;cases d.gone with
 | true=>exact h
 | false=>
  simp only[C8];have h1:=h.tick;cases hg:d.tick.gone with
  | true=>exact h1
  | false=>simp only[C8];exact⟨h1.n1,rfl,sI,h1.s1,h1.s1,λi _=>rfl,h1.ar⟩
theorem kept_le(f:Int):kept f<=64:=by
 unfold kept;split
 ·omega
 ·split
  ·omega
  ·have:=Int.emod_lt_of_pos (f / 3) (dC:(0:Int)<65);have:=Int.emod_nonneg (f / 3) (dC:(65:Int)≠0);omega
theorem tq{f:Int}{x y:Bs}(hx:x.length=64)(hy:y.length=64):(torn f x y).length=64:=by have:=kept_le f;simp only[torn,C5,E5,G4];omega
theorem Wf.nE{d:Dk}(h:d.Wf){i:Nat}(hi:i<d.cur.length):(d.cur.getD i []).length=64:=by rw[G6,C6 hi];exact h.s1 _ (Jk hi)
theorem Wf.pV{d:Dk}(h:d.Wf){i:Nat}(hi:i<d.cur.length):(d.old.getD i []).length=64:=by rw[G6,C6 (by rw[h.lo];exact hi)];exact h.s2 _ (Jk _)
theorem sN{d:Dk}(h:d.Wf)(how:List Int){i:Nat}(hi:i<d.cur.length):(EU how d i).length=64:=by
 unfold EU;cases isC d.chg i with
 | true=>exact tq (h.nE hi) (h.pV hi)
 | false=>exact h.nE hi
theorem mended_len(how:List Int)(d:Dk):(mended how d).length=d.cur.length:=by simp[mended]
theorem uk(how:List Int)(d:Dk)(i:Nat):(mended how d)[i]?=if i<d.cur.length then some (EU how d i) else none:=by
 unfold mended;rw[E4];split
 ·rename_i h;rw[JJ h];rfl
 ·rename_i h;rw[Jc (by simpa using h)];rfl
theorem Wf.crash{d:Dk}(h:d.Wf)(how:List Int):(d.crash how).Wf where
 n1:=by simpa[Dk.crash,mended_len] using h.n1
 lo:=rfl
 lc:=by simp[Dk.crash,mended_len]
 s1:=by
  intro x hx
  obtain⟨i,hi,rfl⟩:=E8.1 hx
  exact sN h how (by simpa using hi)
 s2:=by
  intro x hx
  obtain⟨i,hi,rfl⟩:=E8.1 hx
  exact sN h how (by simpa using hi)
 same:=λi _=>rfl
 ar:=⟨by simp[Dk.crash],by simp[Dk.crash]⟩
theorem jG(c:List Bool):∀(n k i:Nat),((List.range n).filter (isC c))[k]?=some i↔i<n/\isC c i=true/\rank c i=k
 | 0,k,i=>by simp
 | n+1,k,i=>by
  rw[List.range_succ,List.filter_append,List.getElem?_append];have ih:=jG c n;have hl:((List.range n).filter (isC c)).length=rank c n:=rfl;by_cases hk:k<((List.range n).filter (isC c)).length
  ·rw[IY hk,ih];constructor
   ·rintro⟨h1,h2,h3⟩;exact⟨oM,h2,h3⟩
   ·rintro⟨h1,h2,h3⟩;refine⟨?_,h2,h3⟩;have:i≠n:=by rintro rfl;rw[hl,h3] at hk;omega
    omega
  ·rw[IT hk];rw[hl] at hk ⊢;constructor
   ·intro h;rw[J4] at h;split at h
    ·rename_i hn;rw[List.filter_nil] at h;cases hd:k - rank c n with
     | zero=>rw[hd] at h;simp at h;subst h;exact⟨oM,hn,oM⟩
     | succ _=>rw[hd] at h;simp at h
    ·simp at h
   ·rintro⟨h1,h2,h3⟩;have:i=n:=by
     rcases KL i n with hlt|hge
     ·have h4:=(ih (rank c i) i).2 ⟨hlt,h2,rfl⟩;have:=(E2.1 h4).1;rw[hl] at this;omega
     ·omega
    subst this;rw[J4,IY h2,h3,Jh];rfl
theorem pend_mem{d:Dk}(h:d.Wf){i:Nat}:i∈d.pend↔isC d.chg i=true:=by unfold pend;rw[Kh,JP];exact⟨λx=>x.2,λx=>⟨by rw[<- h.lc];exact isC_lt x,x⟩⟩
theorem pend_rises(d:Dk):d.pend.Pairwise (· < ·):=by unfold pend;exact(List.pairwise_lt_range).filter _
theorem pend_len(d:Dk):d.pend.length<=d.cur.length:=by unfold pend;exact F8 (KM _ _) sI
def lI(how:List Int)(d:Dk)(k i:Nat):Bs:=bif isC d.chg i&&decide (rank d.chg i<k) then torn (fate how (rank d.chg i)) (d.cur.getD i []) (d.old.getD i []) else d.cur.getD i []
def mid(how:List Int)(d:Dk)(k:Nat):Dk:={ d with cur:=(List.range d.cur.length).map (lI how d k) }
theorem mid_len(how:List Int)(d:Dk)(k:Nat):(mid how d k).cur.length=d.cur.length:=by simp[mid]
theorem iW(how:List Int)(d:Dk)(k i:Nat):(mid how d k).cur[i]?=if i<d.cur.length then some (lI how d k i) else none:=by
 unfold mid;simp only[E4];split
 ·rename_i h;rw[JJ h];rfl
 ·rename_i h;rw[Jc (by simpa using h)];rfl
theorem xK{d:Dk}(h:d.Wf)(how:List Int)(k:Nat){i:Nat}(hi:i<d.cur.length):(lI how d k i).length=64:=by
 unfold lI;cases isC d.chg i&&decide (rank d.chg i<k) with
 | true=>exact tq (h.nE hi) (h.pV hi)
 | false=>exact h.nE hi
theorem Wf.mid{d:Dk}(h:d.Wf)(how:List Int)(k:Nat):(mid how d k).Wf where
 n1:=by rw[mid_len];exact h.n1
 lo:=by rw[mid_len];exact h.lo
 lc:=by rw[mid_len];exact h.lc
 s1:=by
  intro x hx
  obtain⟨i,hi,rfl⟩:=E8.1 hx
  exact xK h how k (by simpa using hi)
 s2:=h.s2
 same:=by
  intro i hi
  rw[iW]
  have hi':isC d.chg i=false:=hi
  show d.old[i]?=_
  rw[h.same i hi']
  split
  ·rename_i hl
   rw[lI,hi',Jq,C8,G6,C6 hl];rfl
  ·rename_i hl;rw[Jc oM]
 ar:=h.ar
theorem getD_eq{α:Type}{l:List α}{i:Nat}{x:α}(h:i<l.length):l[i]?=some (l.getD i x):=by rw[G6,C6 h];rfl
theorem mid_zero(how:List Int)(d:Dk):mid how d 0=d:=by
 have:(mid how d 0).cur=d.cur:=by
  apply JI;intro i;rw[iW];split
  ·rename_i h;rw[lI,C3 (Nat.not_lt_zero _),J7,C8];exact(getD_eq h).symm
  ·rename_i h;rw[Jc oM]
 unfold mid at this ⊢;simp only at this;rw[this]
theorem mid_end(how:List Int)(d:Dk):(mid how d d.pend.length).cur=mended how d:=by
 apply JI;intro i;rw[iW,uk];split
 ·rename_i h;congr 1;unfold lI EU;cases hc:isC d.chg i with
  | false=>rfl
  | true=>have:(d.pend)[rank d.chg i]?=some i:=(jG d.chg _ _ _).2 ⟨h,hc,rfl⟩;have:=(E2.1 this).1;rw[C9 this,KE]
 ·rfl
theorem mid_step{how:List Int}{d:Dk}{k i:Nat}(h:d.pend[k]?=some i):i<d.cur.length/\(mid how d k).cur.getD i []=d.cur.getD i []/\isC d.chg i=true /\
  (mid how d (k+1)).cur=(mid how d k).cur.set i (torn (fate how k) (d.cur.getD i []) (d.old.getD i [])):=by
 obtain⟨h1,h2,h3⟩:=(jG d.chg _ _ _).1 h;refine⟨h1,?_,h2,?_⟩
 ·rw[G6,iW,IY h1,JH,lI,C3 oM,J7];rfl
 ·apply JI;intro j;rw[iW,Kn,iW];by_cases hj:j<d.cur.length
  ·rw[IY hj,IY hj];by_cases e:i=j
   ·subst e;rw[IY rfl,IY (by rw[mid_len];exact h1),lI,h2,h3,C9 oM];rfl
   ·rw[IT e];congr 1;unfold lI;cases hc:isC d.chg j with
    | false=>rfl
    | true=>
     have hne:rank d.chg j≠k:=by intro e2;have:=(jG d.chg _ _ _).2 ⟨hj,hc,e2⟩;rw[show(List.range d.cur.length).filter (isC d.chg)=d.pend from rfl,h] at this;exact e (by simpa using this)
     have:decide (rank d.chg j<k+1)=decide (rank d.chg j<k):=by rw[G9];omega
     rw[this]
  ·rw[IT hj,IT hj];split
   ·rename_i e;subst e;rw[IT (by rw[mid_len];exact hj)]
   ·rfl
theorem xj{f:Int}(h : -9223372036854775808<=f/\f<=9223372036854775807):0<=fold1 f/\fold1 f<=9223372036854775807:=by unfold fold1;split<;>omega
theorem fate_pos{how:List Int}(h:∀f∈how,-9223372036854775808<=f/\f<=9223372036854775807)(k:Nat):0<=fate how k/\fate how k<=9223372036854775807:=by
 unfold fate;split
 ·rename_i f hf;exact xj (h f (F7 hf))
 ·omega
theorem rising_eq{a b:List Int}(ha:a.Pairwise (· < ·))(hb:b.Pairwise (· < ·))(h:∀x,x∈a↔x∈b):a=b:=by
 induction a generalizing b with
 | nil=>
  cases b with
  | nil=>rfl
  | cons y b=>exact absurd ((h y).2 sI) sI
 | cons x a ih=>
  cases b with
  | nil=>exact absurd ((h x).1 sI) sI
  | cons y b=>
   rw[List.pairwise_cons] at ha hb;have hxy:x=y:=by
    rcases H3.1 ((h x).1 sI) with e|hx
    ·exact e
    ·rcases H3.1 ((h y).2 sI) with e|hy
     ·exact e.symm
     ·have:=ha.1 y hy;have:=hb.1 x hx;omega
   subst hxy;congr 1;refine ih ha.2 hb.2 λz=>?_;constructor
   ·intro hz;rcases H3.1 ((h z).1 (by simp[hz])) with e|hz'
    ·have:=ha.1 z hz;omega
    ·exact hz'
   ·intro hz;rcases H3.1 ((h z).2 (by simp[hz])) with e|hz'
    ·have:=hb.1 z hz;omega
    ·exact hz'
theorem flat_len{l:List Bs}(h:∀x∈l,x.length=64):l.flatten.length=64*l.length:=by
 induction l with
 | nil=>rfl
 | cons x l ih=>simp only[Ka,C5,G2,h x sI,ih (λy hy=>h y (by simp[hy]))];omega
theorem flat_drop{l:List Bs}(h:∀x∈l,x.length=64)(i:Nat):l.flatten.drop (64*i)=(l.drop i).flatten:=by
 induction l generalizing i with
 | nil=>simp
 | cons x l ih=>
  cases i with
  | zero=>rfl
  | succ i=>
   rw[Ka,List.drop_succ_cons,<- ih (λy hy=>h y (by simp[hy])) i,Kq,h x sI,(oM:64*(i+1) - 64=64*i),
    JA (by rw[h x sI];omega),H9]
theorem flat_take{l:List Bs}(h:∀x∈l,x.length=64)(i:Nat):l.flatten.take (64*i)=(l.take i).flatten:=by
 induction l generalizing i with
 | nil=>simp
 | cons x l ih=>
  cases i with
  | zero=>rfl
  | succ i=>
   rw[Ka,List.take_succ_cons,Ka,<- ih (λy hy=>h y (by simp[hy])) i,Ke,h x sI,(oM:64*(i+1) - 64=64*i),
    G0 (by rw[h x sI];omega)]
theorem flat_sec{l:List Bs}(h:∀x∈l,x.length=64){i:Nat}(hi:i<l.length):(l.flatten.drop (64*i)).take 64=l.getD i []:=by rw[flat_drop h,G6,C6 hi,Jo hi,Ka,JH];rw[IU (by rw[h _ (Jk hi)];omega),G0 (by rw[h _ (Jk hi)];omega)]
theorem flat_lay{l:List Bs}(h:∀x∈l,x.length=64){i j:Nat}(hi:i<l.length)(hj:j<=64){y:Bs}(hy:y.length=64 - j):
  l.flatten.take (64*i+j)++y++l.flatten.drop (64*i+64)=(l.set i ((l.getD i []).take j++y)).flatten:=by
 induction l generalizing i with
 | nil=>simp at hi
 | cons x l ih=>
  have hx:=h x sI;cases i with
  | zero=>simp only[Ka,JR,List.getD_cons_zero,Nat.mul_zero,E7];rw[IU oM,Kq,hx,Jh,JA oM,H9,J6]
  | succ i=>
   simp only[Ka,List.set_cons_succ,List.getD_cons_succ];rw[<- ih (λy hy=>h y (by simp[hy])) (by simpa using hi),Ke,Kq,hx];rw[G0 (oM:x.length<=64*(i+1)+j),JA (oM:x.length<=64*(i+1)+64),H9,
    show 64*(i+1)+j - 64=64*i+j by omega,(oM:64*(i+1)+64 - 64=64*i+64)]
   simp only[G7]
end Dk
end Go.Al
namespace Go.Proofs.YtmdmffeoehfjgaaGreatDoor
open Go.Al Go.Proofs
theorem B44:ByteT prog 57 5 9:=sh Tryz.underlying57 Tryz.underlying5 Tryz.underlying9 kR
theorem Gu:KeyT prog 99 3 9 iv:=dG Tryz.underlying99 Tryz.underlying3
theorem z9(w:World):(zeroValue 9).run prog w=.ok (stv []) w:=kR
theorem Es(g n c m:Nat)(w:World):(Instr.build 101 #[(0,.slice (some ⟨g,0,none⟩) n c),(1,.map (some m))]).run prog w=.ok (.agg #[.slice (some ⟨g,0,none⟩) n c,.map (some m),iv 0,.bool false,iv 0]) w:=kR
structure DAt (w : World) (b g m : Nat) (d : Dk) : Prop where
 wf : d.Wf
 st : w.heap[b]? = some (.cells #[.slice (some ⟨g, 0, none⟩) (64 * d.cur.length) (64 * d.cur.length), .map (some m), iv d.armed, .bool d.gone, iv d.done] 101)
 by_ : BRow w g 5 d.cur.flatten
 mp : ∃ M : List (Int × Bs), MapAt w m iv stv M ∧ ∀ k x, (k, x) ∈ M ↔ ∃ i : Nat, k = (i : Int) ∧ Dk.isC d.chg i = true ∧ d.old[i]? = some x
theorem DAt.bg{w:World}{b g m:Nat}{d:Dk}(h:DAt w b g m d):b≠g:=by rintro rfl;have:=h.st;rw[h.by_] at this;simp at this
theorem DAt.bm{w:World}{b g m:Nat}{d:Dk}(h:DAt w b g m d):b≠m:=by rintro rfl;obtain⟨M,hM,_⟩:=h.mp;obtain⟨es,c,hb,_⟩:=hM.ex;rw[h.st] at hb;cases hb
theorem DAt.gm{w:World}{b g m:Nat}{d:Dk}(h:DAt w b g m d):g≠m:=by rintro rfl;obtain⟨M,hM,_⟩:=h.mp;obtain⟨es,c,hb,_⟩:=hM.ex;have:=h.by_;unfold BRow at this;rw[this] at hb;cases hb
theorem DAt.keep{S:Nat->Prop}{w w':World}{b g m:Nat}{d:Dk}(h:DAt w b g m d)(hf:Fm S w w')(h1:¬S b)(h2:¬S g)(h3:¬S m):DAt w' b g m d:=by obtain⟨M,hM,hi⟩:=h.mp;exact⟨h.wf,hf.heap h.st h1,h.by_.keep hf h2,M,hM.keep hf h3,hi⟩
theorem DAt.aS{w w':World}{b g m:Nat}{d:Dk}(h:DAt w b g m d)(hf:Fm (λ_=>False) w w'):DAt w' b g m d:=h.keep hf id id id
theorem DAt.drew{w:World}{b g m:Nat}{d:Dk}(h:DAt w b g m d):DAt w.drew b g m d:=h.aS (Fm.drew _ w)
theorem DAt.lt{w:World}{b g m:Nat}{d:Dk}(h:DAt w b g m d):b<w.heap.size/\g<w.heap.size/\m<w.heap.size:=by obtain⟨M,hM,_⟩:=h.mp;exact⟨aj h.st,h.by_.lt,hM.lt⟩
theorem DAt.c0{w:World}{b g m:Nat}{d:Dk}(h:DAt w b g m d):w.cell? ⟨b,0,none⟩=some (.slice (some ⟨g,0,none⟩) (64*d.cur.length) (64*d.cur.length)):=by rw[ab h.st];rfl
theorem DAt.c1{w:World}{b g m:Nat}{d:Dk}(h:DAt w b g m d):w.cell? ⟨b,1,none⟩=some (.map (some m)):=by rw[ab h.st];rfl
theorem DAt.c3{w:World}{b g m:Nat}{d:Dk}(h:DAt w b g m d):w.cell? ⟨b,3,none⟩=some (.bool d.gone):=by rw[ab h.st];rfl
theorem DAt.c4{w:World}{b g m:Nat}{d:Dk}(h:DAt w b g m d):w.cell? ⟨b,4,none⟩=some (iv d.done):=by rw[ab h.st];rfl
theorem wV(w:World)(n:Int):Cl prog 24 [iv n] w λv w'=>
  (n<1\/65536<n->v=.tuple #[.pointer none,iv 1]/\w'=w) /\
  (¬(n<1\/65536<n)->∃b g m,v=.tuple #[pv b,iv 0]/\w.heap.size<=b/\w.heap.size<=g/\w.heap.size<=m/\DAt w' b g m (Dk.mk0 n.toNat)/\Fm (λ_=>False) w w'):=by
 refine c24 ?_;have ok:¬(n<1\/65536<n)->Pu (aC (TypeDesc.int .i64) .mul (iv n) (Value.int .i64 64)) λt11_7=>
   RunS prog (Instr.makeSlice 57 t11_7 t11_7) w λt12_8 w_9=>
   RunS prog (Instr.makeMap 99 none) w_9 λt13_10 w_11=>
   RunS prog (Instr.build 101 #[(0,t12_8),(1,t13_10)]) w_11 λt14_12 w_13=>
   New (Value.cells t14_12) 101 w_13 λt15_14 w_15=>
   ∃b g m,Value.tuple #[t15_14,(Value.int .i64 0)]=.tuple #[pv b,iv 0]/\w.heap.size<=b/\w.heap.size<=g/\w.heap.size<=m/\DAt w_15 b g m (Dk.mk0 n.toNat)/\Fm (λ_=>False) w w_15:=by
  intro hn;obtain⟨k,rfl⟩:=E9 (oM:0<=n);have hk:1<=k/\k<=65536:=oM;have e1:IntKind.i64.wrap ((k:Int)*64)=((64*k:Nat):Int):=by rw[af]<;>omega
  simp only[RS,e1];refine ag (BRow.make B44 w (64*k) oM) (ag (bf _ _) (ag (Es _ _ _ _ _) (ae ?_)));intro b w' hb hs hw hf;have hs1:=aE w (.cells (bc (List.replicate (64*k) 0)).toArray 5);generalize hw1:w.alloc (.cells (bc (List.replicate (64*k) 0)).toArray 5)=w1 at hs1 hb hs hf hw;have hg:BRow w1 w.heap.size 5 (List.replicate (64*k) 0):=by rw[<- hw1];exact ay _ _
  have hf1:Fm (λ_=>False) w w1:=by rw[<- hw1];exact Fm.alloc _ _ _
  have hM:=(MapAt.empty w1 iv stv).keep hf id;have hf2:=(Fm.alloc (λ_=>False) w1 (.map #[] 0));rw[aE] at hb;have hfl:List.replicate (64*k) 0=(Dk.mk0 k).cur.flatten:=by show _=(List.replicate k Dk.zsec).flatten;rw[Dk.zsec,List.flatten_replicate_replicate,Nat.mul_comm]
  have hlen:(Dk.mk0 k).cur.length=k:=by simp[Dk.mk0]
  refine⟨b,w.heap.size,w1.heap.size,rfl,oM,oM,oM,⟨Dk.wf_mk0 hk.2,?_,?_,[],hM,?_⟩,?_⟩
  ·rw[H6,hlen];exact hw
  ·rw[H6,<- hfl];exact(hg.keep hf2 id).keep hf id
  ·intro a x;constructor
   ·intro h;cases h
   ·rintro⟨i,_,hc,_⟩;have:=Dk.isC_rep k i;rw[show(Dk.mk0 (k:Int).toNat).chg=List.replicate k false from rfl] at hc;rw[this] at hc;cases hc
  ·exact(hf1.trans hf2 iT iT).trans hf iT iT
 by_cases h1:n<1
 ·have e1:decide (n<1)=true:=by simpa using h1
  simp only[RS,e1];exact⟨λ_=>⟨trivial,trivial⟩,λh=>absurd (.inl h1) h⟩
 ·have e1:decide (n<1)=false:=by simpa using h1
  by_cases h2:65536<n
  ·have e2:decide (65536<n)=true:=by simpa using h2
   simp only[RS,e1,e2];exact⟨λ_=>⟨trivial,trivial⟩,λh=>absurd (.inr h2) h⟩
  ·have e2:decide (65536<n)=false:=by simpa using h2
   have hno:¬(n<1\/65536<n):=oM;have:=ok hno;simp only[RS,e1,e2];simp only[hno,false_imp_iff,JF,not_false_eq_true,true_imp_iff];simp only[RS] at this;exact this
theorem cG{w:World}{b g m:Nat}{d:Dk}(h:DAt w b g m d):Cl prog 59 [pv b] w λv w'=>v=iv d.cur.length/\w'=w:=by have hn:=h.wf.n1;refine c59 ?_;have e:=nI (TypeDesc.int .i64) (n:=64*d.cur.length) (m:=64) (b:=64) oM oM rfl;simp only[RS,h.c0,e];rw[Nat.mul_div_cancel_left _ oM];exact⟨tV,tV⟩
theorem gz{w:World}{b g m:Nat}{d:Dk}(h:DAt w b g m d):Cl prog 145 [pv b] w λv w'=>v=iv (bif d.gone then 5 else 0)/\w'=w:=by refine c145 ?_;simp only[RS,h.c3];cases d.gone<;>simp only[RS,D8,C8,H7]
theorem oH{w:World}{b g m:Nat}{d:Dk}(h:DAt w b g m d)(a k:Int):Cl prog 146 [pv b,iv a,iv k] w λv w'=>v=.bool (d.has a k)/\w'=w:=by
 have hn:=h.wf.n1;refine c146 ?_;unfold Dk.has;by_cases h1:0<=a
 ·have e1:decide (0<=a)=true:=by simpa using h1
  by_cases h2:0<=k
  ·have e2:decide (0<=k)=true:=by simpa using h2
   simp only[RS,e1,e2];refine(cG h).mono ?_;rintro _ w ⟨rfl,rfl⟩;by_cases h3:a<=d.cur.length
   ·have e3:decide (a<=(d.cur.length:Int))=true:=by simpa using h3
    simp only[RS,e3];refine(cG h).mono ?_;rintro _ w ⟨rfl,rfl⟩;have e4:IntKind.i64.wrap ((d.cur.length:Int) - a)=d.cur.length - a:=af oM;simp only[RS,e4];refine⟨?_,tV⟩;congr 1;simp[h1,h2,h3]
   ·have e3:decide (a<=(d.cur.length:Int))=false:=by simpa using h3
    simp only[RS,e3];refine⟨?_,tV⟩;congr 1;symm;rw[C7];omega
  ·have e2:decide (0<=k)=false:=by simpa using h2
   simp only[RS,e1,e2];refine⟨?_,tV⟩;congr 1;symm;rw[C7];omega
 ·have e1:decide (0<=a)=false:=by simpa using h1
  simp only[RS,e1];refine⟨?_,tV⟩;congr 1;symm;rw[C7];omega
theorem jg{w:World}{b g m:Nat}{d:Dk}(h:DAt w b g m d){i:Nat}(hi:i<d.cur.length):Cl prog 27 [pv b,iv i] w λv w'=>v=.slice (some ⟨g,64*i,none⟩) 64 (64*d.cur.length - 64*i)/\w'=w:=by
 have hn:=h.wf.n1;refine c27 ?_;have e1:IntKind.i64.wrap ((i:Int)*64)=((64*i:Nat):Int):=by rw[af]<;>omega
 have e2:IntKind.i64.wrap ((i:Int)+1)=((i+1:Nat):Int):=by rw[af]<;>omega
 have e3:IntKind.i64.wrap (((i+1:Nat):Int)*64)=((64*(i+1):Nat):Int):=by rw[af]<;>omega
 obtain⟨o',hs,ho,_⟩:=ti (g:=g) (o:=0) (n:=64*d.cur.length) (c:=64*d.cur.length) (i:=64*i) (j:=64*(i+1)) oM oM .i64 .i64;simp only[RS,h.c0,e1,e2,e3,hs];rw[ho oM,(oM:64*(i+1) - 64*i=64),E7];exact⟨tV,tV⟩
theorem DAt.tick{w w':World}{b g m:Nat}{d d':Dk}(h:DAt w b g m d)(hc:d'.cur=d.cur/\d'.old=d.old/\d'.chg=d.chg)(hwf:d'.Wf)
  (hb:w'.heap[b]?=some (.cells #[.slice (some ⟨g,0,none⟩) (64*d.cur.length) (64*d.cur.length),.map (some m),iv d'.armed,.bool d'.gone,iv d'.done] 101)) (hf:Fm (·=b) w w'):DAt w' b g m d':=by
 obtain⟨M,hM,hi⟩:=h.mp;have h1:=h.bg;have h2:=h.bm;obtain⟨hc1,hc2,hc3⟩:=hc;exact⟨hwf,by rw[hc1];exact hb,by rw[hc1];exact h.by_.keep hf (λe=>h1 e.symm),M,hM.keep hf (λe=>h2 e.symm),by rw[hc2,hc3];exact hi⟩
theorem oD{w:World}{b g m:Nat}{d:Dk}(h:DAt w b g m d):Cl prog 147 [pv b] w λv w'=>v=.bool d.tick.gone/\DAt w' b g m d.tick/\Fm (·=b) w w':=by
 have har:=h.wf.ar;refine c147 ?_;simp only[RS,h.c4];refine au h.st sI rfl ?_;intro w1 hw1 hs1 hf1
 replace hw1:w1.heap[b]?=some (.cells #[.slice (some ⟨g,0,none⟩) (64*d.cur.length) (64*d.cur.length),.map (some m),iv d.armed,.bool d.gone,iv (IntKind.i64.wrap (d.done+1))] 101):=hw1
 have c2:w1.cell? ⟨b,2,none⟩=some (iv d.armed):=by rw[ab hw1];rfl
 refine aJ (λvs w2=>vs=[]/\DAt w2 b g m d.tick/\Fm (·=b) w w2) ?_ ?_
 ·rintro _ w2 ⟨rfl,hD,hf⟩ _;refine⟨rfl,?_⟩;simp only[RS,hD.c3];exact⟨trivial,hD,hf⟩
 ·intro kk hkk;simp only[RS,c2];by_cases ha:0<d.armed
  ·have e1:decide (0<d.armed)=true:=by simpa using ha
   have e2:IntKind.i64.wrap (d.armed - 1)=d.armed - 1:=af oM;simp only[RS,e1,e2];refine au hw1 sI rfl ?_;intro w2 hw2 hs2 hf2
   replace hw2:w2.heap[b]?=some (.cells #[.slice (some ⟨g,0,none⟩) (64*d.cur.length) (64*d.cur.length),.map (some m),iv (d.armed - 1),.bool d.gone,iv (IntKind.i64.wrap (d.done+1))] 101):=hw2
   have c2':w2.cell? ⟨b,2,none⟩=some (iv (d.armed - 1)):=by rw[ab hw2];rfl
   simp only[RS,c2'];refine au hw2 sI rfl ?_;intro w3 hw3 hs3 hf3;have hF:Fm (·=b) w w3:=(hf1.trans hf2 iT iT).trans hf3 iT iT;refine hkk _ _ ⟨rfl,h.tick (Dk.tick_cur d) h.wf.tick ?_ hF,hF⟩;unfold Dk.tick;rw[IY ha];rw[aV] at hw3;exact hw3
  ·have e1:decide (0<d.armed)=false:=by simpa using ha
   simp only[RS,e1];refine hkk _ _ ⟨rfl,h.tick (Dk.tick_cur d) h.wf.tick ?_ hf1,hf1⟩;unfold Dk.tick;rw[IT ha];exact hw1
theorem fL{w:World}{b g m:Nat}{d:Dk}(h:DAt w b g m d)(a k:Int):Cl prog 76 [pv b,iv a,iv k] w λv w'=>v=.tuple #[stv (d.read a k).1,iv (d.read a k).2]/\w'=w:=by
 have hn:=h.wf.n1;refine c76 ?_;refine(gz h).mono ?_;rintro _ w ⟨rfl,rfl⟩;unfold Dk.read;cases hg:d.gone with
 | true=>simp only[RS,D8,aF];exact⟨tV,tV⟩
 | false=>
  simp only[RS,C8,bne_self_eq_false];refine(oH h a k).mono ?_;rintro _ w ⟨rfl,rfl⟩;cases hh:d.has a k with
  | false=>simp only[RS,D8];exact⟨tV,tV⟩
  | true=>
   unfold Dk.has at hh;simp only[C4] at hh;obtain⟨i,rfl⟩:=E9 hh.1;obtain⟨j,rfl⟩:=E9 hh.2.1;have hij:i+j<=d.cur.length:=oM;have e1:IntKind.i64.wrap ((i:Int)*64)=((64*i:Nat):Int):=by rw[af]<;>omega
   have e2:IntKind.i64.wrap ((i:Int)+j)=((i+j:Nat):Int):=by rw[af]<;>omega
   have e3:IntKind.i64.wrap (((i+j:Nat):Int)*64)=((64*(i+j):Nat):Int):=by rw[af]<;>omega
   obtain⟨o',hs,ho,hle,_⟩:=ti (g:=g) (o:=0) (n:=64*d.cur.length) (c:=64*d.cur.length) (i:=64*i) (j:=64*(i+j)) oM oM .i64 .i64;simp only[RS,h.c0,e1,e2,e3,hs,C8];have hfl:=Dk.flat_len h.wf.s1;have ee:64*(i+j) - 64*i=64*j:=oM;rw[ee];refine ag (h.by_.conv B44 (o:=o') (n:=64*j) (by rw[hfl];omega) _) ⟨?_,tV⟩;congr 3;have hd:(d.cur.flatten.drop o').take (64*j)=((d.cur.drop i).take j).flatten:=by
    by_cases hi:64*i<64*d.cur.length
    ·rw[ho hi,E7,Dk.flat_drop h.wf.s1,Dk.flat_take (λx hx=>h.wf.s1 x (List.mem_of_mem_drop hx))]
    ·have hj0:j=0:=oM;subst hj0;simp
   rw[hd];rfl
theorem lS{w:World}{b g m:Nat}{d:Dk}(h:DAt w b g m d):Cl prog 75 [pv b] w λv w'=>v=.bool d.gone/\w'=w:=by refine c75 ?_;simp only[RS,h.c3,H7]
open Go.ChangeMaps (setBlock)
theorem oA{P:Program}{t kt et:TypeId}(ht:P.underlying t=some (.map kt et)){α β:Type}[DecidableEq α]{kv:α->Value}{vv:β->Value}{w:World}{m:Nat}{M:List (α×β)}(h:MapAt w m kv vv M)(ty:TypeId):
  ∃w',(Builtin.clear_ #[t] ty #[.map (some m)]).run P w=.ok (.tuple #[]) w'/\MapAt w' m kv vv ([]:List (α×β))/\Fm (·=m) w w'/\w'.heap.size=w.heap.size:=by
 obtain⟨es,c,hb,he,hn,hlt⟩:=h.ex;refine⟨setBlock w m (.map #[] c),?_,⟨⟨#[],c,bL hb,rfl,sI,sI⟩,sI⟩,Fm.setBlock _ _ _ rfl,bz _ _ _⟩;unfold Builtin.clear_;simp only[I5,List.getElem?_cons_zero,Sem.run_bind,an ht,Result.andThen_ok,Go.Al.run_getObj_map hb,Go.Al.run_setObj_map hb,Sem.run_pure]
theorem di{w:World}{b g m:Nat}{d:Dk}(h:DAt w b g m d):Cl prog 70 [pv b] w λv w'=>v=iv d.sync.2/\DAt w' b g m d.sync.1/\Fm (λx=>x=b\/x=g\/x=m) w w':=by
 have hwf:=h.wf.sync;refine c70 ?_;refine(gz h).mono ?_;rintro _ w ⟨rfl,rfl⟩;unfold Dk.sync at hwf ⊢;cases hg:d.gone with
 | true=>simp only[RS,D8,aF];exact⟨tV,h,Fm.refl _ _⟩
 | false=>
  rw[hg] at hwf;simp only[RS,C8,bne_self_eq_false];refine(oD h).mono ?_;rintro _ w1 ⟨rfl,h1,hf1⟩;simp only[C8] at hwf;cases hg1:d.tick.gone with
  | true=>simp only[RS,D8];exact⟨tV,h1,hf1.mono λ_ _ e=>.inl e⟩
  | false=>
   rw[hg1] at hwf;simp only[RS,C8,h1.c1];obtain⟨M,hM,_⟩:=h1.mp;obtain⟨w2,hr,hM2,hf2,_⟩:=oA Tryz.underlying99 hM 0;refine ag hr ?_;refine⟨tV,⟨hwf,?_,?_,[],hM2,?_⟩,hf1.trans hf2 (λ_ _ e=>.inl e) (λ_ _ e=>.inr (.inr e))⟩
   ·have:=hf2.heap h1.st h1.bm;rw[hg1] at this;exact this
   ·exact h1.by_.keep hf2 h1.gm
   ·intro k x;constructor
    ·intro e;cases e
    ·rintro⟨i,_,hc,_⟩;simp only[Dk.isC_rep] at hc;cases hc
theorem DAt.u0{w:World}{b g m:Nat}{d:Dk}(h:DAt w b g m d){i:Nat}(hi:i<d.cur.length){M':List (Int×Bs)}{w':World}
  (hM:∃M:List (Int×Bs),MapAt w m iv stv M/\(∀k x,(k,x)∈M↔∃i:Nat,k=(i:Int)/\Dk.isC d.chg i=true/\d.old[i]?=some x) /\
   (Dk.isC d.chg i=false->M'=cM M (i:Int) (d.cur.getD i []))/\(Dk.isC d.chg i=true->M'=M)) (hM':MapAt w' m iv stv M'):
  ∀k x,(k,x)∈M'↔∃j:Nat,k=(j:Int)/\Dk.isC (d.chg.set i true) j=true/\d.old[j]?=some x:=by
 obtain⟨M,hMw,hmem,hno,hyes⟩:=hM;have hil:i<d.chg.length:=by rw[h.wf.lc];exact hi
 intro k x;cases hc:Dk.isC d.chg i with
 | true=>
  rw[hyes hc,hmem];constructor
  ·rintro⟨j,rfl,hj,hx⟩;exact⟨j,rfl,by rw[Dk.isC_set _ _ _ hil];split<;>first|rfl|exact hj,hx⟩
  ·rintro⟨j,rfl,hj,hx⟩;refine⟨j,rfl,?_,hx⟩;rw[Dk.isC_set _ _ _ hil] at hj;split at hj
   ·rename_i e;subst e;exact hc
   ·exact hj
 | false=>
  have hs:=hno hc;subst hs;have hold:d.old[i]?=some (d.cur.getD i []):=by rw[h.wf.same i hc,G6,C6 hi];rfl
  rw[<- getD_some hM'.keys,bl];split
  ·rename_i e;subst e;constructor
   ·intro e;cases e;exact⟨i,rfl,by rw[Dk.isC_set _ _ _ hil,IY rfl],hold⟩
   ·rintro⟨j,hj,_,hx⟩;have:i=j:=oM;subst this;rw[hold] at hx;exact hx
  ·rename_i hne;rw[getD_some hMw.keys,hmem];constructor
   ·rintro⟨j,rfl,hj,hx⟩;exact⟨j,rfl,by rw[Dk.isC_set _ _ _ hil];split<;>first|rfl|exact hj,hx⟩
   ·rintro⟨j,rfl,hj,hx⟩;refine⟨j,rfl,?_,hx⟩;rw[Dk.isC_set _ _ _ hil,IT (λe=>hne (by rw[e]))] at hj;exact hj
theorem bS{w:World}{b g m:Nat}{d:Dk}(h:DAt w b g m d)(a:Int)(s:Bs)(hs:s.length<=9223372036854775807):Cl prog 62 [pv b,iv a,stv s] w λv w'=>v=iv (d.write a s).2/\DAt w' b g m (d.write a s).1/\Fm (λx=>x=b\/x=g\/x=m) w w':=by
 have hn:=h.wf.n1;refine c62 ?_;refine(gz h).mono ?_;rintro _ w ⟨rfl,rfl⟩;unfold Dk.write;cases hg:d.gone with
 | true=>simp only[RS,D8,aF];exact⟨tV,h,Fm.refl _ _⟩
 | false=>
  have er:=eF (TypeDesc.int .i64) (n:=s.length) (m:=64) (b:=64) oM hs rfl;have eq:=nI (TypeDesc.int .i64) (n:=s.length) (m:=64) (b:=64) oM hs rfl;simp only[RS,aq,cN,br,C8,bne_self_eq_false,er];by_cases hr:s.length % 64=0
  ·have e1:(((s.length % 64:Nat):Int) != 0)=false:=by rw[hr];rfl
   have e1':decide (s.length % 64≠0)=false:=by simp[hr]
   simp only[RS,aq,cN,br,e1,e1',eq,Jf];refine(oH h a _).mono ?_;rintro _ w ⟨rfl,rfl⟩;cases hh:d.has a (s.length / 64:Nat) with
   | false=>simp only[RS,D8];exact⟨tV,h,Fm.refl _ _⟩
   | true=>
    simp only[RS,C8];unfold Dk.has at hh;simp only[C4] at hh;obtain⟨p,rfl⟩:=E9 hh.1;rw[H6];have hlen:s.length=64*(s.length / 64):=oM;generalize hK:s.length / 64=K at hh hlen ⊢;refine⟨λvs w2=>∃(i r:Nat) (t:Bs) (e:Dk),vs=[iv (i:Nat),stv t]/\t.length=64*r/\i+r<=d.cur.length/\e.cur.length=d.cur.length/\d.wr p (Dk.chunks K s)=e.wr i (Dk.chunks r t)/\DAt w2 b g m e/\Fm (λx=>x=b\/x=g\/x=m) w w2,
     λvs _=>sz1 vs,⟨p,K,s,d,rfl,hlen,oM,rfl,rfl,h,Fm.refl _ _⟩,?_⟩
    rintro _ w2 iat idata ⟨i,r,t,e,hvs,htl,hir,hel,heq,hE,hf⟩;cases hvs;cases r with
    | zero=>have:t=[]:=H0 oM;subst this;simp only[RS,aq,cN,br,Jm];rw[heq];exact⟨tV,hE,hf⟩
    | succ r=>
     have hne:t≠[]:=by rintro rfl;simp at htl
     have hie:i<e.cur.length:=oM;have e2:decide (t=[])=false:=by simpa using hne
     simp only[RS,aq,cN,br,e2];have heq2:d.wr p (Dk.chunks K s)=(let d':=(e.put i (t.take 64)).tick;bif d'.gone then(d',5) else d'.wr (i+1) (Dk.chunks r (t.drop 64))):=heq;refine aJ (λvs w3=>vs=[]/\(∃M',MapAt w3 m iv stv M'/\∀k x,(k,x)∈M'↔∃j:Nat,k=(j:Int)/\Dk.isC (e.chg.set i true) j=true/\e.old[j]?=some x)/\Fm (·=m) w2 w3) ?_ ?_
     ·rintro _ w3 ⟨rfl,⟨M',hM',hmem'⟩,hf3⟩ _;refine⟨rfl,?_⟩;have et:slS (stv t) none (some (.int .i64 64))=some (stv (t.take 64)):=gl (l:=t) (i:=64) oM .i64;have et2:slS (stv t) (some (.int .i64 64)) none=some (stv (t.drop 64)):=eP (l:=t) (i:=64) oM .i64;simp only[RS,et,et2];have hst3:=hf3.heap hE.st hE.bm;have hby3:=hE.by_.keep hf3 hE.gm;have hne3:DAt w3.drew b g m { e with chg:=List.replicate e.cur.length false,old:=e.cur }\/True:=.inr trivial;refine Cl.mono (k:=λv w'=>v=.slice (some ⟨g,64*i,none⟩) 64 (64*e.cur.length - 64*i)/\w'=w3.drew) ?_ ?_
      ·refine c27 ?_;have g1:IntKind.i64.wrap ((i:Int)*64)=((64*i:Nat):Int):=by rw[af]<;>omega
       have g2:IntKind.i64.wrap ((i:Int)+1)=((i+1:Nat):Int):=by rw[af]<;>omega
       have g3:IntKind.i64.wrap (((i+1:Nat):Int)*64)=((64*(i+1):Nat):Int):=by rw[af]<;>omega
       obtain⟨o',hs,ho,_⟩:=ti (g:=g) (o:=0) (n:=64*e.cur.length) (c:=64*e.cur.length) (i:=64*i) (j:=64*(i+1)) oM oM .i64 .i64;have c0:w3.cell? ⟨b,0,none⟩=some (.slice (some ⟨g,0,none⟩) (64*e.cur.length) (64*e.cur.length)):=by rw[ab hst3];rfl
       simp only[RS,c0,g1,g2,g3,hs];rw[ho oM,(oM:64*(i+1) - 64*i=64),E7];exact⟨tV,tV⟩
      ·rintro _ _ ⟨rfl,rfl⟩;have hfl:=Dk.flat_len hE.wf.s1;have ht64:(t.take 64).length=64:=by rw[E5];omega
       have hfd:=Fm.drew (λ_=>False) w3;obtain⟨w4,hr4,hby4,hs4,hf4⟩:=(hby3.keep hfd id).tO B44 (o:=64*i) (n:=64) (x:=t.take 64) oM (by rw[hfl];omega) (64*e.cur.length - 64*i) 3;refine ag hr4 ?_;have hput:DAt w4 b g m (e.put i (t.take 64)):=by
        refine⟨hE.wf.put i ht64,?_,?_,M',?_,hmem'⟩
        ·have:=hf4.heap (hfd.heap hst3 id) hE.bg;simpa[Dk.put] using this
        ·have:=hby4;rw[ht64] at this;have l1:=Dk.flat_lay hE.wf.s1 hie (j:=0) (y:=t.take 64) oM oM;simp only[Jt,List.take_zero,H9] at l1;rw[l1] at this;exact this
        ·exact(hM'.keep hfd id).keep hf4 (λx=>hE.gm x.symm)
       refine(oD hput).mono ?_;rintro _ w5 ⟨rfl,h5,hf5⟩;have hF:Fm (λx=>x=b\/x=g\/x=m) w w5:=(((hf.trans hf3 (U:=λx=>x=b\/x=g\/x=m) iT (λ_ _ e=>.inr (.inr e))).trans hfd (U:=λx=>x=b\/x=g\/x=m) iT iE).trans hf4 (U:=λx=>x=b\/x=g\/x=m) iT (λ_ _ e=>.inr (.inl e))).trans hf5 iT (λ_ _ e=>.inl e);rw[heq2];cases hg5:(e.put i (t.take 64)).tick.gone with
       | true=>simp only[RS,hg5,D8];exact⟨tV,h5,hF⟩
       | false=>
        have g4:IntKind.i64.wrap ((i:Int)+1)=((i+1:Nat):Int):=by rw[af]<;>omega
        simp only[RS,g4];have hl5:(e.put i (t.take 64)).tick.cur.length=e.cur.length:=by rw[(Dk.tick_cur _).1];simp[Dk.put]
        refine⟨⟨i+1,r,t.drop 64,_,rfl,by rw[G4];omega,oM,by rw[hl5,hel],?_,h5,hF⟩,?_⟩
        ·simp only[hg5,C8]
        ·rw[BR,BR,G4];omega
     ·intro kk hkk;obtain⟨M,hM,hmem⟩:=hE.mp;simp only[RS,hE.c1];refine ag (aX Gu hM (i:Int) true (z9 _)) ?_;cases hc:Dk.isC e.chg i with
      | true=>
       have hlt:i<e.old.length:=by rw[hE.wf.lo];omega
       have hget:getD M (i:Int)=some e.old[i]:=(getD_some hM.keys).2 ((hmem _ _).2 ⟨i,rfl,hc,C6 hlt⟩);simp only[hget,okV,D8];simp only[RS];exact hkk _ _ ⟨rfl,⟨M,hM,hE.u0 hie ⟨M,hM,hmem,λe=>(by rw[hc] at e;cases e),λ_=>rfl⟩ hM⟩,Fm.refl _ _⟩
      | false=>
       have hget:getD M (i:Int)=none:=by
        cases hq:getD M (i:Int) with
        | none=>rfl
        | some x=>obtain⟨j,hj,hcj,_⟩:=(hmem _ _).1 ((getD_some hM.keys).1 hq);have:i=j:=oM;subst this;rw[hc] at hcj;cases hcj
       simp only[hget,okV,D8];simp only[RS];refine⟨λw'=>w'.cell? ⟨b,1,none⟩=some (.map (some m)),hE.c1,?_⟩;refine⟨.map (some m),λw' hw'=>by simp only[RS,hw'];exact⟨tV,tV⟩,?_⟩;have hEd:=hE.drew;refine(jg hEd hie).mono ?_;rintro _ _ ⟨rfl,rfl⟩;refine⟨hE.c1,?_⟩;have hfl:=Dk.flat_len hE.wf.s1;refine ag (hEd.by_.conv B44 (o:=64*i) (n:=64) (by rw[hfl];omega) _) ⟨rfl,?_⟩;rw[Dk.flat_sec hE.wf.s1 hie];obtain⟨w4,hr4,hM4,hf4,_⟩:=bk Gu (hM.keep (Fm.drew (λ_=>False) w2) id) (i:Int) (e.cur.getD i []);refine cA hr4 ?_;have hf24:Fm (·=m) w2 w4:=(Fm.drew (λ_=>False) w2).trans hf4 iE iT;exact hkk _ _ ⟨rfl,⟨_,hM4,hE.u0 hie ⟨M,hM,hmem,λ_=>rfl,λe=>(by rw[hc] at e;cases e)⟩ hM4⟩,hf24⟩
  ·have e1:(((s.length % 64:Nat):Int) != 0)=true:=by rw[aF];simp;omega
   have e1':decide (s.length % 64≠0)=true:=by simp[hr]
   simp only[RS,aq,cN,br,e1,e1',Jv,D8];exact⟨tV,h,Fm.refl _ _⟩
structure Lg where
 frm : Nat
 n : Nat
 base : Nat
 kept : Bs
 start : Nat
 last : Nat
 res : Int
 recs : List (Int × Rc)
def tM(k:Nat):Bs:=beN 4 ((k+1) % 4294967296)
def nQ(k:Nat)(b:Bs):Bs:=tM k++([UInt8.ofNat b.length]++(b++(aG (54 - b.length)++([UInt8.ofNat b.length]++tM k))))
def opened(s:Bs)(k:Nat):Bs:=bif decide (s.take 4=tM k)&&decide (s.drop 60=tM k) then(s.drop 5).take (min (min (s.getD 4 0).toNat (s.getD 59 0).toNat) 54) else[]
def atR(r:Rc)(k:Nat):Rc:={ r with lsn:=(k:Int) }
namespace Lg
def tail(L:Lg):Nat:=L.base+L.kept.length
def room(L:Lg):Int:=54*((L.n:Int) - 2) - ((L.tail:Int) - (L.start:Int)) - L.res
def append(L:Lg)(r:Rc):Lg×Int×Int:=
 bif decide ((rCheck (atR r L.tail)).2=0) then
  (bif decide (L.room<((lF (atR r L.tail)).1.length:Int)) then(L,0,50)
   else({ L with kept:=L.kept++(lF (atR r L.tail)).1,recs:=cM L.recs (L.tail:Int) (atR r L.tail) },(L.tail:Int),0))
 else(L,0,(rCheck (atR r L.tail)).2)
def reserve(L:Lg)(k:Int):Lg×Int:=bif decide (k<0) then(L,1) else bif decide (L.room<k) then(L,50) else({ L with res:=L.res+k },0)
def release(L:Lg)(k:Int):Lg×Int:=bif decide (k<0)||decide (L.res<k) then(L,1) else({ L with res:=L.res - k },0)
def bytes(L:Lg)(k:Nat):Bs:=(L.kept.drop (k*54+1 - L.base)).take 54
def put(L:Lg)(k:Nat)(d:Dk):Dk×Int:=d.write ((L.frm+k % L.n:Nat):Int) (nQ k (L.bytes k))
def flushGo(L:Lg):Nat->Nat->Dk->Dk×Int
 | 0,_,d=>(d,0)
 | f+1,k,d=>bif decide (k*54+1<L.tail) then(bif decide ((L.put k d).2=0) then flushGo L f (k+1) (L.put k d).1 else L.put k d) else(d,0)
def flushE(L:Lg)(d:Dk):Dk×Int:=flushGo L (L.kept.length+1) ((L.last - 1) / 54) d
def flush(L:Lg)(upto:Int)(d:Dk):Lg×Dk×Int:=
 bif decide (upto<(L.last:Int))||decide (L.last=L.tail) then(L,d,0) else
 bif decide ((L.flushE d).2=0) then(bif decide ((L.flushE d).1.sync.2=0) then({ L with last:=L.tail },(L.flushE d).1.sync.1,0) else(L,(L.flushE d).1.sync.1,(L.flushE d).1.sync.2))
 else(L,(L.flushE d).1,(L.flushE d).2)
def baseOf(b:Nat):Nat:=(b - 1) / 54*54+1
def new(frm n:Nat):Lg:=⟨frm,n,1,[],1,1,0,[]⟩
structure Wf (L : Lg) : Prop where
 n4 : 4 ≤ L.n
 big : L.frm + L.n ≤ 65536
 bs : L.base = baseOf L.start
 st : 1 ≤ L.start ∧ L.start ≤ L.last ∧ L.last ≤ L.tail
 small : L.kept.length ≤ 8000000
 low : L.tail ≤ 9223372036854775807
 hi : L.last < L.tail → L.tail ≤ 4611686018427500000
 res : 0 ≤ L.res ∧ L.res ≤ 4000000
 ok : ∀ p ∈ L.recs, p.2.lsn = p.1 ∧ (rCheck p.2).2 = 0 ∧ (∀ m ∈ p.2.imgs, m.2.lsn ≤ 9223372036854775807) ∧ (L.start : Int) ≤ p.1 ∧ p.1 < (L.tail : Int)
theorem baseOf_le{b:Nat}(h:1<=b):1<=baseOf b/\baseOf b<=b/\b<baseOf b+54:=by unfold baseOf;omega
theorem wf_new{frm n:Nat}(h1:4<=n)(h2:frm+n<=65536):(new frm n).Wf where
 n4:=h1
 big:=h2
 bs:=by simp[new,baseOf]
 st:=by simp[new,tail]
 small:=by simp[new]
 low:=by simp[new,tail]
 hi:=by simp[new,tail]
 res:=by simp[new]
 ok:=by simp[new]
theorem enc_len{r:Rc}(h:(rCheck r).2=0)(hl:∀m∈r.imgs,m.2.lsn<=9223372036854775807):18<=(lF r).1.length/\(lF r).1.length<=65543:=by have h1:=(ir h hl).2.2.2;have h2:=wD r;rw[yn h hl];simp only[C5,aH];omega
theorem room_le{L:Lg}(h:L.Wf):L.room<=3538836:=by have h1:=h.big;have h2:=h.st;have h3:=h.res;unfold room;omega
theorem Wf.append{L:Lg}(h:L.Wf)(r:Rc)(hl:∀m∈r.imgs,m.2.lsn<=9223372036854775807):(L.append r).1.Wf:=by
 unfold Lg.append;cases hc:decide ((rCheck (atR r L.tail)).2=0) with
 | false=>exact h
 | true=>
  rw[C4] at hc;rw[D8];cases hr:decide (L.room<((lF (atR r L.tail)).1.length:Int)) with
  | true=>exact h
  | false=>
   rw[C7] at hr;rw[C8];have hrl:=room_le h;have hel:=enc_len hc (r:=atR r L.tail) hl;have hok:=(ir hc (r:=atR r L.tail) hl);have hlsn:((L.tail:Nat):Int)<=4611686018427387904:=by have:=(hok.1.nums ((atR r L.tail).lsn) (by unfold rNums;simp)).2;exact this
   have h1:=h.st;have h2:=h.bs;have h3:=h.n4;have h4:=h.big;have h5:=h.res;have hbl:=baseOf_le h1.1;rw[<- h2] at hbl;unfold room at hr;unfold tail at hr hlsn h1;generalize hE:(lF (atR r L.tail)).1=E at hr hel;refine⟨h.n4,h.big,h.bs,⟨h1.1,h1.2.1,?_⟩,?_,?_,λ_=>?_,h.res,?_⟩
   ·show L.last<=L.base+(L.kept++E).length;rw[C5];omega
   ·show(L.kept++E).length<=_;rw[C5];omega
   ·show L.base+(L.kept++E).length<=_;rw[C5];omega
   ·show L.base+(L.kept++E).length<=_;rw[C5];omega
   ·intro p hp;have hnd:∀q∈cM L.recs (L.tail:Int) (atR r L.tail),q∈L.recs\/q=((L.tail:Int),atR r L.tail):=by
     intro q hq;have hg:getD L.recs ((L.tail:Nat):Int)=none:=by rw[getD_none];intro hm;obtain⟨x,hx,hxe⟩:=E8.1 hm;have:=(h.ok x hx).2.2.2.2;omega
     rw[dg _ _ _ hg] at hq;simpa using hq
    show p.2.lsn=p.1/\_/\_/\_/\p.1<((L.base+(L.kept++E).length:Nat):Int);rcases hnd p hp with hp|rfl
    ·obtain⟨q1,q2,q3,q4,q5⟩:=h.ok p hp;unfold tail at q5;refine⟨q1,q2,q3,q4,?_⟩;rw[C5];omega
    ·refine⟨rfl,hc,hl,?_,?_⟩
     ·show(L.start:Int)<=(L.tail:Int);unfold tail;omega
     ·show(L.tail:Int)<_;unfold tail;rw[C5];omega
theorem Wf.reserve{L:Lg}(h:L.Wf)(k:Int):(L.reserve k).1.Wf:=by
 unfold Lg.reserve;cases h1:decide (k<0) with
 | true=>exact h
 | false=>
  cases h2:decide (L.room<k) with
  | true=>exact h
  | false=>rw[C7] at h1 h2;have h3:=room_le h;have h4:=h.st;have h5:=h.big;have h6:=h.res;unfold room at h2;refine⟨h.n4,h.big,h.bs,h.st,h.small,h.low,h.hi,?_,h.ok⟩;show 0<=L.res+k/\L.res+k<=4000000;omega
theorem Wf.release{L:Lg}(h:L.Wf)(k:Int):(L.release k).1.Wf:=by
 unfold Lg.release;cases h1:decide (k<0)||decide (L.res<k) with
 | true=>exact h
 | false=>rw[JO,C7,C7] at h1;have h6:=h.res;refine⟨h.n4,h.big,h.bs,h.st,h.small,h.low,h.hi,?_,h.ok⟩;show 0<=L.res - k/\L.res - k<=4000000;omega
theorem Wf.last{L:Lg}(h:L.Wf):({ L with last:=L.tail }:Lg).Wf:=⟨h.n4,h.big,h.bs,⟨h.st.1,F8 h.st.2.1 h.st.2.2,D9 _⟩,h.small,h.low,λe=>absurd e (Nat.lt_irrefl _),h.res,h.ok⟩
theorem blk_len(k:Nat):(tM k).length=4:=aH _ _
theorem bytes_len(L:Lg)(k:Nat):(L.bytes k).length<=54:=by unfold bytes;rw[E5];omega
theorem zeros_len'(n:Nat):(aG n).length=n:=by simp[aG]
theorem seal_len{b:Bs}(h:b.length<=54)(k:Nat):(nQ k b).length=64:=by unfold nQ;simp only[C5,blk_len,zeros_len',G2,Ja];omega
end Lg
def Held(w:World)(P:Nat->Prop)(cs:Array Value)(r:Rc):Prop:=∀w',Fm (λy=>¬P y) w w'->RcAs w' cs r
theorem Held.now{w:World}{P:Nat->Prop}{cs:Array Value}{r:Rc}(h:Held w P cs r):RcAs w cs r:=h w (Fm.refl _ _)
theorem Held.keep{S P:Nat->Prop}{w w1:World}{cs:Array Value}{r:Rc}(h:Held w P cs r)(hf:Fm S w w1)(hs:∀y,P y->¬S y):Held w1 P cs r:=λw' h'=>h w' (hf.trans h' (λx _ hx hp=>hs x hp hx) iT)
theorem Held.mono{P Q:Nat->Prop}{w:World}{cs:Array Value}{r:Rc}(h:Held w P cs r)(hPQ:∀y,P y->Q y):Held w Q cs r:=λw' h'=>h w' (h'.mono (λx _ hx hp=>hx (hPQ x hp)))
theorem RdOk.held{w:World}{b:Nat}{cs:Array Value}{r:Rc}(h:RdOk w b cs (some r)):Held w (λy=>b<=y/\y<w.heap.size) cs r:=by obtain⟨vs,vm,vi,vp,vt,rfl,h1,h2⟩:=h;intro w' hf;refine(h1.keep (S:=λy=>y<w.heap.size/\y<b) ?_ (λy e=>e.2)).AT h2;exact⟨hf.os,hf.tape,hf.output,hf.size,λy hy hn=>hf.block y hy (λe=>e ⟨oM,hy⟩)⟩
theorem RcAs.atR{w:World}{r:Rc}{vs vm vi vp vt:Value}(h:RcAs w (rcs r vs vm vi vp vt) r){k:Nat}(hk:k<=9223372036854775807):RcAs w (rcs (atR r k) vs vm vi vp vt) (atR r k):=by
 obtain⟨as_,am,ai,ap,at_,h1,h2,h3,h4,h5,h6,h7⟩:=h.ex;have e:(rcs r vs vm vi vp vt).toList=(rcs r as_ am ai ap at_).toList:=by rw[h1]
 simp only[rcs,Ku,JF,and_true] at e;obtain⟨rfl,rfl,rfl,rfl,rfl⟩:=e;refine⟨⟨_,_,_,_,_,rfl,h2,h3,h4,h5,h6,h7⟩,?_,h.kin,h.data,h.bulk,h.lsns⟩;intro n hn;have hins:=h.ins;unfold rNums at hn hins;simp only[H5,H3] at hn hins;have e1:((Go.Proofs.YtmdmffeoehfjgaaGreatDoor.atR r k).prev=r.prev):=rfl;rcases hn with((((((rfl|hn)|hn)|hn)|hn)|hn)|hn)
 ·show In (k:Int);unfold In;omega
 ·exact hins n (.inl (.inl (.inl (.inl (.inl (.inr hn))))))
 ·exact hins n (.inl (.inl (.inl (.inl (.inr hn)))))
 ·exact hins n (.inl (.inl (.inl (.inr hn))))
 ·exact hins n (.inl (.inl (.inr hn)))
 ·exact hins n (.inl (.inr hn))
 ·exact hins n (.inr hn)
theorem Ea:KeyT prog 205 3 168 iv:=dG Tryz.underlying205 Tryz.underlying3
def lgc(db mb:Nat)(kv:Value)(L:Lg):Array Value:=#[pv db,iv (L.frm:Int),iv (L.n:Int),iv (L.base:Int),kv,iv (L.start:Int),iv (L.last:Int),iv L.res,.map (some mb)]
theorem Fm.step{X S:Nat->Prop}{w w1 w2:World}(h:Fm X w w1)(k:Fm S w1 w2)(hs:∀y,S y->X y\/w.heap.size<=y):Fm X w w2:=h.trans k iT (λx hx e=>by rcases hs x e with q|q;exact q;omega)
structure LIn (w : World) (X P : Nat → Prop) (lb db mb : Nat) (kv : Value) (M : List (Int × Array Value)) (L : Lg) : Prop where
 st : w.heap[lb]? = some (.cells (lgc db mb kv L) 207)
 kp : KpAt w 5 kv L.kept
 mp : MapAt w mb iv Value.agg M
 keys : M.map (·.1) = L.recs.map (·.1)
 rec_ : ∀ k cs, (k, cs) ∈ M → ∃ r, (k, r) ∈ L.recs ∧ Held w P cs r
 xs : X lb ∧ X mb ∧ (∀ y, kv.ownBlock = some y → X y) ∧ ∀ y, P y → X y
 ps : ¬ P lb ∧ ¬ P mb ∧ ∀ y, kv.ownBlock = some y → ¬ P y
 lt : ∀ y, X y → y < w.heap.size
section
variable{w w':World}{X P S:Nat->Prop}{lb db mb:Nat}{kv:Value}{M:List (Int×Array Value)}{L L':Lg}
theorem LIn.keep(h:LIn w X P lb db mb kv M L)(hf:Fm S w w')(hS:∀y,X y->¬S y):LIn w' X P lb db mb kv M L:=⟨hf.heap h.st (hS _ h.xs.1),h.kp.keep hf (λy hy=>hS y (h.xs.2.2.1 y hy)),h.mp.keep hf (hS _ h.xs.2.1),h.keys,λk cs hm=>by obtain⟨r,h1,h2⟩:=h.rec_ k cs hm;exact⟨r,h1,h2.keep hf (λy hy=>hS y (h.xs.2.2.2 y hy))⟩,h.xs,h.ps,λy hy=>E3 (h.lt y hy) hf.size⟩
theorem LIn.aS(h:LIn w X P lb db mb kv M L)(hf:Fm (λ_=>False) w w'):LIn w' X P lb db mb kv M L:=h.keep hf iT
theorem LIn.nk(h:LIn w X P lb db mb kv M L):kv.ownBlock≠some lb:=h.kp.A9 h.st dC
theorem LIn.nm(h:LIn w X P lb db mb kv M L):mb≠lb:=by rintro rfl;obtain⟨es,c,hb,_⟩:=h.mp.ex;rw[h.st] at hb;cases hb
theorem LIn.km(h:LIn w X P lb db mb kv M L):kv.ownBlock≠some mb:=by obtain⟨es,c,hb,_⟩:=h.mp.ex;exact h.kp.B9 hb
theorem LIn.upd(h:LIn w X P lb db mb kv M L)(hst:w'.heap[lb]?=some (.cells (lgc db mb kv L') 207))(hf:Fm (·=lb) w w')(e1:L'.kept=L.kept)(e2:L'.recs=L.recs):LIn w' X P lb db mb kv M L':=⟨hst,by rw[e1];exact h.kp.keep hf (λy hy e=>h.nk (by rw[hy,e])),h.mp.keep hf h.nm,by rw[e2];exact h.keys,λk cs hm=>by obtain⟨r,h1,h2⟩:=h.rec_ k cs hm;exact⟨r,by rw[e2];exact h1,h2.keep hf (λy hy e=>h.ps.1 (by rw[<- e];exact hy))⟩,h.xs,h.ps,λy hy=>E3 (h.lt y hy) hf.size⟩
theorem LIn.c0(h:LIn w X P lb db mb kv M L):w.cell? ⟨lb,0,none⟩=some (pv db):=by rw[ab h.st];rfl
theorem LIn.c1(h:LIn w X P lb db mb kv M L):w.cell? ⟨lb,1,none⟩=some (iv (L.frm:Int)):=by rw[ab h.st];rfl
theorem LIn.c2(h:LIn w X P lb db mb kv M L):w.cell? ⟨lb,2,none⟩=some (iv (L.n:Int)):=by rw[ab h.st];rfl
theorem LIn.c3(h:LIn w X P lb db mb kv M L):w.cell? ⟨lb,3,none⟩=some (iv (L.base:Int)):=by rw[ab h.st];rfl
theorem LIn.c4(h:LIn w X P lb db mb kv M L):w.cell? ⟨lb,4,none⟩=some kv:=by rw[ab h.st];rfl
theorem LIn.c5(h:LIn w X P lb db mb kv M L):w.cell? ⟨lb,5,none⟩=some (iv (L.start:Int)):=by rw[ab h.st];rfl
theorem LIn.c6(h:LIn w X P lb db mb kv M L):w.cell? ⟨lb,6,none⟩=some (iv (L.last:Int)):=by rw[ab h.st];rfl
theorem LIn.c7(h:LIn w X P lb db mb kv M L):w.cell? ⟨lb,7,none⟩=some (iv L.res):=by rw[ab h.st];rfl
theorem LIn.c8(h:LIn w X P lb db mb kv M L):w.cell? ⟨lb,8,none⟩=some (.map (some mb)):=by rw[ab h.st];rfl
end
structure LAt (w : World) (X : Nat → Prop) (lb db : Nat) (L : Lg) : Prop where
 wf : L.Wf
 ex : ∃ P mb kv M, LIn w X P lb db mb kv M L
theorem LAt.keep{w w':World}{X S:Nat->Prop}{lb db:Nat}{L:Lg}(h:LAt w X lb db L)(hf:Fm S w w')(hS:∀y,X y->¬S y):LAt w' X lb db L:=by obtain⟨P,mb,kv,M,hi⟩:=h.ex;exact⟨h.wf,P,mb,kv,M,hi.keep hf hS⟩
theorem LAt.aS{w w':World}{X:Nat->Prop}{lb db:Nat}{L:Lg}(h:LAt w X lb db L)(hf:Fm (λ_=>False) w w'):LAt w' X lb db L:=h.keep hf iT
theorem LAt.lt{w:World}{X:Nat->Prop}{lb db:Nat}{L:Lg}(h:LAt w X lb db L):∀y,X y->y<w.heap.size:=by obtain⟨P,mb,kv,M,hi⟩:=h.ex;exact hi.lt
theorem LAt.lb{w:World}{X:Nat->Prop}{lb db:Nat}{L:Lg}(h:LAt w X lb db L):X lb:=by obtain⟨P,mb,kv,M,hi⟩:=h.ex;exact hi.xs.1
section
variable{w:World}{X:Nat->Prop}{lb db:Nat}{L:Lg}
theorem eh(h:LAt w X lb db L):Cl prog 96 [pv lb] w λv w'=>v=iv (L.tail:Int)/\Fm (λ_=>False) w w':=by
 obtain⟨P,mb,kv,M,hi⟩:=h.ex;have hl:=h.wf.low;refine c96 ?_;have e1:IntKind.i64.wrap ((L.base:Int)+(L.kept.length:Int))=(L.tail:Int):=by unfold Lg.tail at hl ⊢;rw[af]<;>omega
 simp only[RS,hi.c3,hi.c4,hi.kp.lenV,e1,JF];exact Fm.drew _ _
theorem iH(h:LAt w X lb db L):Cl prog 184 [pv lb] w λv w'=>v=iv (L.last:Int)/\Fm (λ_=>False) w w':=by obtain⟨P,mb,kv,M,hi⟩:=h.ex;refine c184 ?_;simp only[RS,hi.c6];exact⟨tV,Fm.refl _ _⟩
theorem mQ(h:LAt w X lb db L):Cl prog 124 [pv lb] w λv w'=>v=iv L.room/\Fm (λ_=>False) w w':=by
 obtain⟨P,mb,kv,M,hi⟩:=h.ex;have h1:=h.wf.st;have h2:=h.wf.big;have h3:=h.wf.res;have h4:=h.wf.small;have h5:=h.wf.bs;have h6:=h.wf.n4;have hb:=Lg.baseOf_le h1.1;rw[<- h5] at hb;have ht:L.tail=L.base+L.kept.length:=rfl;have e1:IntKind.i64.wrap ((L.n:Int) - 2)=(L.n:Int) - 2:=by rw[af];omega
 have e2:IntKind.i64.wrap (54*((L.n:Int) - 2))=54*((L.n:Int) - 2):=by rw[af];omega
 have e3:IntKind.i64.wrap ((L.tail:Int) - (L.start:Int))=(L.tail:Int) - (L.start:Int):=by rw[af];omega
 have e4:IntKind.i64.wrap (54*((L.n:Int) - 2) - ((L.tail:Int) - (L.start:Int)))=54*((L.n:Int) - 2) - ((L.tail:Int) - (L.start:Int)):=by rw[af];omega
 have e5:IntKind.i64.wrap (54*((L.n:Int) - 2) - ((L.tail:Int) - (L.start:Int)) - L.res)=L.room:=by unfold Lg.room;rw[af];omega
 have hC:∀{w':World},Fm (λ_=>False) w w'->LIn w' X P lb db mb kv M L:=λhf=>hi.aS hf;have hfd:=Fm.drew (λ_=>False) w;refine c124 ?_;simp only[RS];refine⟨λw'=>LIn w' X P lb db mb kv M L,hC hfd,?_⟩;refine⟨iv (L.n:Int),λw' h'=>?_,?_⟩
 ·simp only[RS,h'.c2]<;>trivial
 simp only[RS,e1,e2];refine⟨iv (L.start:Int),λw' h'=>?_,?_⟩
 ·simp only[RS,h'.c5]<;>trivial
 refine⟨iv L.res,λw' h'=>?_,?_⟩
 ·simp only[RS,h'.c7]<;>trivial
 refine(eh (h.aS hfd)).mono ?_;rintro _ w2 ⟨rfl,hf2⟩;refine⟨hC (Fmf hfd hf2),?_⟩;simp only[RS,e3,e4,e5];exact⟨tV,Fmf hfd hf2⟩
theorem iJ(h:LAt w X lb db L)(k:Int):Cl prog 48 [pv lb,iv k] w λv w'=>v=iv (L.reserve k).2/\LAt w' X lb db (L.reserve k).1/\Fm (·=lb) w w':=by
 have hwf:=h.wf.reserve k;unfold Lg.reserve at hwf ⊢;refine c48 ?_;cases h1:decide (k<0) with
 | true=>simp only[RS,h1,D8];exact⟨tV,h,Fm.refl _ _⟩
 | false=>
 rw[h1] at hwf;simp only[RS,h1,C8];refine(mQ h).mono ?_;rintro _ w2 ⟨rfl,hf2⟩;have h':=h.aS hf2;cases h2:decide (L.room<k) with
 | true=>simp only[RS,h2,D8];exact⟨tV,h',hf2.mono (λ_ _ e=>e.elim)⟩
 | false=>
 rw[h2] at hwf;obtain⟨P,mb,kv,M,hi⟩:=h'.ex;have hrl:=Lg.room_le h.wf;have hrs:=h.wf.res;rw[C7] at h1 h2;have e1:IntKind.i64.wrap (L.res+k)=L.res+k:=by rw[af];omega
 have h2':decide (L.room<k)=false:=by simpa using h2
 simp only[RS,h2',C8,hi.c7,e1];refine au hi.st (by show 7<9;decide) rfl ?_;intro w3 hw3 hs3 hf3;exact⟨tV,⟨hwf,P,mb,kv,M,hi.upd hw3 hf3 rfl rfl⟩,(hf2.mono (λ_ _ e=>e.elim)).trans hf3 (λ_ _ e=>e) (λ_ _ e=>e)⟩
theorem nW(h:LAt w X lb db L)(k:Int):Cl prog 43 [pv lb,iv k] w λv w'=>v=iv (L.release k).2/\LAt w' X lb db (L.release k).1/\Fm (·=lb) w w':=by
 have hwf:=h.wf.release k;unfold Lg.release at hwf ⊢;obtain⟨P,mb,kv,M,hi⟩:=h.ex;refine c43 ?_;cases h1:decide (k<0) with
 | true=>simp only[RS,h1,Jv,D8];exact⟨tV,h,Fm.refl _ _⟩
 | false=>
 cases h2:decide (L.res<k) with
 | true=>simp only[RS,h1,h2,Jf,D8,hi.c7];exact⟨tV,h,Fm.refl _ _⟩
 | false=>
 rw[h1,h2] at hwf;have hrs:=h.wf.res;rw[C7] at h1 h2;have e1:IntKind.i64.wrap (L.res - k)=L.res - k:=by rw[af];omega
 have h1':decide (k<0)=false:=by simpa using h1
 have h2':decide (L.res<k)=false:=by simpa using h2
 simp only[RS,h1',h2',Bool.or_self,C8,hi.c7,e1];refine au hi.st (by show 7<9;decide) rfl ?_;intro w3 hw3 hs3 hf3;exact⟨tV,⟨hwf,P,mb,kv,M,hi.upd hw3 hf3 rfl rfl⟩,hf3⟩
end
theorem nF{w:World}{cs:Array Value}{r:Rc}(h:RcAs w cs r)(hc:(rCheck r).2=0):Cl prog 170 [.agg cs] w λv w'=>∃cs',v=.agg cs'/\Held w' (λy=>w.heap.size<=y/\y<w'.heap.size) cs' r/\Fm (λ_=>False) w w':=by refine c170 ?_;refine ae ?_;intro x1 w1 hx1 hs1 hw1 hf1;refine ae ?_;intro x2 w2 hx2 hs2 hw2 hf2;have hF2:=Fmf hf1 hf2;have hw1':=hf2.heap hw1 id;simp only[RS,aa hw1' h.size];refine(pM (h.keep hF2)).mono ?_;rintro _ w3 ⟨rfl,hf3⟩;have hF3:=Fmf hF2 hf3;have hel:=Lg.enc_len hc h.lsns;have hdb:=Aa hc h.lsns [];rw[H1] at hdb;simp only[RS];refine(pJ w3 (lF r).1 oM).mono ?_;rintro _ w4 ⟨cs',rfl,hok,hf4⟩;rw[hdb] at hok ⊢;have hF4:=Fmf hF3 hf4;have hheld:=hok.held;have hsz:=hok.as.size;have hone:=hok.as.one;simp only[RS];refine ae ?_;intro x5 w5 hx5 hs5 hw5 hf5;have z1:=hF2.size;have z3:=hf3.size;have z4:=hf4.size;refine ao hw5 rfl hsz hone ?_;intro w6 hw6 hs6 hf6;simp only[RS,aa hw6 hsz];have hw2':=hf6.heap (hf5.heap (hf4.heap (hf3.heap hw2 id) id) id) (oM:¬x2=x5);refine ao hw2' rfl hsz hone ?_;intro w7 hw7 hs7 hf7;refine yy hw7 hsz ?_;have hF7:Fm (λ_=>False) w w7:=Fm.own (Fm.own (Fmf hF4 hf5) hf6 (by rintro y rfl;omega)) hf7 (by rintro y rfl;omega);refine⟨cs',rfl,?_,hF7⟩;have k5:=hheld.keep hf5 iT;have k6:=k5.keep hf6 (by rintro y hy rfl;omega);have k7:=k6.keep hf7 (by rintro y hy rfl;omega);refine k7.mono ?_;rintro y ⟨q1,q2⟩;omega
theorem qe{w:World}{X:Nat->Prop}{lb db:Nat}{L:Lg}(h:LAt w X lb db L){cs:Array Value}{r:Rc}(hr':∀w',Fm X w w'->RcAs w' cs r):
  Cl prog 192 [pv lb,.agg cs] w λv w'=>v=.tuple #[iv (L.append r).2.1,iv (L.append r).2.2]/\∃X',LAt w' X' lb db (L.append r).1/\(∀y,X' y->X y\/w.heap.size<=y)/\Fm X w w':=by
 have hr:=hr' w (Fm.refl _ _);have hwf:=h.wf.append r hr.lsns;have hlow:=h.wf.low;obtain⟨vs,vm,vi,vp,vt,rfl,_⟩:=hr.ex;have same:∀{w':World},Fm (λ_=>False) w w'->∃X',LAt w' X' lb db L/\(∀y,X' y->X y\/w.heap.size<=y)/\Fm X w w':=λhf=>⟨X,h.aS hf,λy hy=>.inl hy,hf.mono iE⟩;unfold Lg.append at hwf ⊢;refine c192 ?_;refine ae ?_;intro x1 w1 hx1 hs1 hw1 hf1;simp only[RS];refine(eh (h.aS hf1)).mono ?_;rintro _ w2 ⟨rfl,hf2⟩;have hF2:=Fmf hf1 hf2;have hw2:=hf2.heap hw1 id
 try simp only[RS]
 refine au hw2 (by show 0<16;decide) rfl ?_;intro w3 hw3 hs3 hf3;have hF3:Fm (λ_=>False) w w3:=Fm.own hF2 hf3 (by rintro y rfl;omega)
 replace hw3:w3.heap[x1]?=some (.cells (rcs (atR r L.tail) vs vm vi vp vt) 168):=hw3
 have hra:=(hr.keep hF3).atR hlow;simp only[RS,aa hw3 (n:=16) rfl];refine(pM hra).mono ?_;rintro _ w4 ⟨rfl,hf4⟩;have hF4:=Fmf hF3 hf4;rw[AJ];simp only[RS,aF];cases hc:decide ((rCheck (atR r L.tail)).2=0) with
 | false=>simp only[RS,C8];exact⟨tV,same hF4⟩
 | true=>
 rw[hc] at hwf;rw[C4] at hc;have hel:=Lg.enc_len hc hra.lsns;simp only[RS,D8,aq];refine(mQ (h.aS hF4)).mono ?_;rintro _ w5 ⟨rfl,hf5⟩;have hF5:=Fmf hF4 hf5;cases hrm:decide (L.room<((lF (atR r L.tail)).1.length:Int)) with
 | true=>simp only[RS,hrm,D8];exact⟨tV,same hF5⟩
 | false=>
 rw[hrm] at hwf;simp only[RS,hrm,C8];obtain⟨P,mb,kv,M,hi0⟩:=h.ex;have hi:=hi0.aS hF5;have hsm:=h.wf.small;have hw5:=hf5.heap (hf4.heap hw3 id) id;have hra5:=(hra.keep hf4).keep hf5;generalize hE:(lF (atR r L.tail)).1=E at hel hwf;simp only[D8,C8] at hwf;have z5:=hF5.size;simp only[RS,hi.c4];obtain⟨kv',w6,hr6,hk6,hf6,hb6⟩:=hi.kp.app B44 E 57 oM;refine ag hr6 ?_;have hst6:=hf6.heap hi.st hi.nk
 try simp only[RS]
 refine au hst6 (by show 4<9;decide) hk6.one ?_;intro w7 hw7 hs7 hf7
 replace hw7:w7.heap[lb]?=some (.cells #[pv db,iv (L.frm:Int),iv (L.n:Int),iv (L.base:Int),kv',iv (L.start:Int),iv (L.last:Int),iv L.res,.map (some mb)] 207):=hw7
 have hx1:x1≠lb:=by have:=hi0.lt lb hi0.xs.1;omega
 have hkx:kv.ownBlock≠some x1:=λe=>by have:=hi0.lt x1 (hi0.xs.2.2.1 x1 e);omega
 have hw7x:=hf7.heap (hf6.heap hw5 hkx) hx1;have hfd:=Fm.drew (λ_=>False) w7;have hK7:KpAt w7 5 kv' (L.kept++E):=hk6.keep hf7 (λy hy e=>hk6.A9 hst6 dC (by rw[hy,e]));have hM7:MapAt w7 mb iv Value.agg M:=(hi.mp.keep hf6 (λe=>hi.km e)).keep hf7 hi.nm;have hR7:∀{w'},Fm (λ_=>False) w7 w'->∀k cs,(k,cs)∈M->∃r,(k,r)∈L.recs/\Held w' P cs r:=λhf k cs hm=>by obtain⟨r',q1,q2⟩:=hi.rec_ k cs hm;exact⟨r',q1,((q2.keep hf6 (λy hy e=>hi.ps.2.2 y e hy)).keep hf7 (λy hy e=>hi.ps.1 (e▸hy))).keep hf iT⟩
 have hX7:Fm X w w7:=Fm.step (Fm.step (hF5.mono iE) hf6 (λy hy=>.inl (hi0.xs.2.2.1 y hy))) hf7 (λy hy=>.inl (hy▸hi0.xs.1));have hra7:=(hr' w7.drew (Fm.step hX7 hfd (λ_ e=>e.elim))).atR hlow;have z7:=hX7.size
 try simp only[RS]
 refine⟨λw'=>Fm (λ_=>False) w7 w',hfd,?_⟩;refine⟨.map (some mb),λw' h'=>?_,?_⟩
 ·have:w'.cell? ⟨lb,8,none⟩=some (.map (some mb)):=by rw[ab (h'.heap hw7 id)];rfl
  simp only[RS,this]<;>trivial
 refine⟨iv (L.tail:Int),λw' h'=>?_,?_⟩
 ·have:w'.cell? ⟨x1,0,none⟩=some (iv (L.tail:Int)):=by rw[ab (h'.heap hw7x id)];rfl
  simp only[RS,this]<;>trivial
 simp only[RS,aa (hfd.heap hw7x id) (n:=16) rfl,JF];refine(nF hra7 hc).mono ?_;rintro _ w8 ⟨cs',rfl,hheld,hf8⟩;have hF8:=Fmf hfd hf8;refine⟨hF8,?_⟩;have z8:=hf8.size;have zd:w7.drew.heap.size=w7.heap.size:=rfl;obtain⟨w9,hr9,hM9,hf9,hz9⟩:=bk Ea (hM7.keep hF8 id) (L.tail:Int) cs';refine cA hr9 ?_;have hxm:x1≠mb:=by have:=hi0.lt mb hi0.xs.2.1;omega
 have hw9x:=hf9.heap (hF8.heap hw7x id) hxm;have hw9:=hf9.heap (hF8.heap hw7 id) hi.nm.symm;have c9:w9.cell? ⟨x1,0,none⟩=some (iv (L.tail:Int)):=by rw[ab hw9x];rfl
 simp only[RS,c9];have hX9:Fm X w w9:=Fm.step (Fm.step hX7 hF8 (λ_ e=>e.elim)) hf9 (λy hy=>.inl (hy▸hi0.xs.2.1));have z9:=hX9.size;refine⟨tV,λy=>X y\/(w.heap.size<=y/\y<w9.heap.size),⟨hwf,λy=>P y\/(w7.heap.size<=y/\y<w8.heap.size),mb,kv',cM M (L.tail:Int) cs',?_⟩,λy hy=>hy.imp id (λe=>e.1),hX9⟩;have hlb:=hi0.lt lb hi0.xs.1;have hmb:=hi0.lt mb hi0.xs.2.1;have hkv:∀y,kv'.ownBlock=some y->(kv.ownBlock=some y\/(w.heap.size<=y/\y<w7.heap.size)):=λy hy=>by
  rcases hb6 y hy with e|e
  ·exact .inl e
  ·have:=hK7.lt y hy;exact .inr ⟨oM,this⟩
 refine⟨hw9,(hK7.keep hF8 iT).keep hf9 (λy hy e=>?_),hM9,?_,?_,⟨.inl hi0.xs.1,.inl hi0.xs.2.1,λy hy=>?_,λy hy=>?_⟩,⟨?_,?_,?_⟩,λy hy=>?_⟩
 ·rcases hkv y hy with q|q
  ·exact hi.km (by rw[q,e])
  ·omega
 ·rw[cR,cR,hi.keys]
 ·intro k cs hm;have hnd:getD M (L.tail:Int)=none:=by rw[getD_none,hi.keys];intro hm;obtain⟨x,hx,hxe⟩:=E8.1 hm;have:=(h.wf.ok x hx).2.2.2.2;omega
  have hnd2:getD L.recs (L.tail:Int)=none:=by rw[getD_none,<- hi.keys,<- getD_none];exact hnd
  rw[dg _ _ _ hnd] at hm;show ∃r',(k,r')∈cM L.recs (L.tail:Int) (atR r L.tail)/\_;rw[dg _ _ _ hnd2];rcases H5.1 hm with hm|hm
  ·obtain⟨r',q1,q2⟩:=hR7 hF8 k cs hm;exact⟨r',List.mem_append_left _ q1,(q2.mono (λy hy=>.inl hy)).keep hf9 (by
    rintro y (hy|hy) rfl
    ·exact hi.ps.2.1 hy
    ·omega)⟩
  ·simp only[Jw,J9] at hm;obtain⟨rfl,rfl⟩:=hm;exact⟨_,List.mem_append_right _ sI,(hheld.mono (λy hy=>.inr hy)).keep hf9 (by
    rintro y (hy|hy) rfl
    ·exact hi.ps.2.1 hy
    ·omega)⟩
 ·rcases hkv y hy with q|q
  ·exact .inl (hi0.xs.2.2.1 y q)
  ·exact .inr ⟨q.1,oM⟩
 ·rcases hy with q|q
  ·exact .inl (hi0.xs.2.2.2 y q)
  ·exact .inr ⟨oM,oM⟩
 ·rintro(q|q)
  ·exact hi.ps.1 q
  ·omega
 ·rintro(q|q)
  ·exact hi.ps.2.1 q
  ·omega
 ·rintro y hy (q|q)
  ·rcases hkv y hy with e|e
   ·exact hi.ps.2.2 y e q
   ·have:=hi0.lt y (hi0.xs.2.2.2 y q);omega
  ·have:=hK7.lt y hy;omega
 ·rcases hy with q|q
  ·have:=hi0.lt y q;omega
  ·exact q.2
theorem xk(a b:Int):aB aR [iv a,iv b]=some (iv (min a b)):=by
 have:aR (iv a) (iv b)=some (iv (min a b)):=by show some (iv (if b<a then b else a))=_;congr 2;split<;>omega
 simp only[aB,aO,this,IW]
theorem fY(w:World){k:Nat}(hk:k+1<=9223372036854775807):Cl prog 318 [iv (k:Int)] w λv w'=>v=stv (tM k)/\Fm (λ_=>False) w w':=by
 refine c318 ?_;have e1:IntKind.i64.wrap ((k:Int)+1)=((k+1:Nat):Int):=by rw[af]<;>omega
 have e2:=eF (TypeDesc.int .i64) (n:=k+1) (m:=4294967296) dC hk (b:=4294967296) rfl;simp only[RS,e1,e2];refine(bt w (n:=(((k+1) % 4294967296:Nat):Int)) (by unfold In;omega) 4).mono ?_;rintro _ w1 ⟨rfl,hf⟩;refine⟨?_,hf⟩;unfold tM;rw[show(4:Int)=((4:Nat):Int) from rfl,ej oM oM]
theorem iI(w:World){n:Nat}(h:1<=n)(hn:n<=9223372036854775807):Cl prog 167 [iv (n:Int)] w λv w'=>v=iv (((n - 1) / 54:Nat):Int)/\w'=w:=by
 refine c167 ?_;have e1:IntKind.i64.wrap ((n:Int) - 1)=((n - 1:Nat):Int):=by rw[af]<;>omega
 have e2:=nI (TypeDesc.int .i64) (n:=n - 1) (m:=54) dC oM (b:=54) rfl;simp only[RS,e1,e2];exact⟨tV,tV⟩
theorem gL(w:World){k:Nat}(hk:k*54+1<=9223372036854775807):Cl prog 166 [iv (k:Int)] w λv w'=>v=iv ((k*54+1:Nat):Int)/\w'=w:=by
 refine c166 ?_;have e1:IntKind.i64.wrap ((k:Int)*54)=((k*54:Nat):Int):=by rw[af]<;>omega
 have e2:IntKind.i64.wrap (((k*54:Nat):Int)+1)=((k*54+1:Nat):Int):=by rw[af]<;>omega
 simp only[RS,e1,e2];exact⟨tV,tV⟩
theorem mR(w:World){k:Nat}(hk:k+1<=9223372036854775807){b:Bs}(hb:b.length<=54):Cl prog 261 [iv (k:Int),stv b] w λv w'=>v=stv (nQ k b)/\Fm (λ_=>False) w w':=by
 refine c261 ?_;have e1:cvI .u8 (iv (b.length:Int))=some (.int .u8 (((UInt8.ofNat b.length).toNat:Nat):Int)):=by show some (Value.int .u8 (IntKind.u8.wrap (b.length:Int)))=_;rw[eI,I9 oM,iG oM]
 have e2:IntKind.i64.wrap (54 - (b.length:Int))=((54 - b.length:Nat):Int):=by rw[af]<;>omega
 have h4:=Lg.blk_len k;have hz:=Lg.zeros_len' (54 - b.length);simp only[RS,aq,e1];refine ag (EE _ _) ?_;have hfa:=Fm.alloc (λ_=>False) w (.cells #[.int .u8 (((UInt8.ofNat b.length).toNat:Nat):Int)] 5);have hrow:BRow (w.alloc (.cells #[.int .u8 (((UInt8.ofNat b.length).toNat:Nat):Int)] 5)) w.heap.size 5 [UInt8.ofNat b.length]:=ay _ _;generalize w.alloc (.cells #[.int .u8 (((UInt8.ofNat b.length).toNat:Nat):Int)] 5)=w1 at hfa hrow;have hcv:=hrow.conv (P:=prog) B38 (o:=0) (n:=1) sI 1
 refine ag hcv ?_;rw[show(([UInt8.ofNat b.length]:Bs).drop 0).take 1=[UInt8.ofNat b.length] from rfl];refine(fY w1 hk).mono ?_;rintro _ w2 ⟨rfl,hf2⟩;rw[mG (by simp;omega)];simp only[RS];rw[mG (by simp;omega)];simp only[RS,e2];refine(bT w2 (54 - b.length) oM).mono ?_;rintro _ w3 ⟨rfl,hf3⟩;rw[mG (by simp;omega)];simp only[RS];rw[mG (by simp;omega)];simp only[RS];refine(fY w3 hk).mono ?_;rintro _ w4 ⟨rfl,hf4⟩;rw[mG (by simp;omega)];simp only[RS];refine⟨?_,Fmf hfa (Fmf hf2 (Fmf hf3 hf4))⟩;unfold nQ;simp only[G7]
section
variable{w:World}{X:Nat->Prop}{lb db:Nat}{L:Lg}
theorem qk(h:LAt w X lb db L){k:Nat}(hk:k<=9223372036854775807):Cl prog 255 [pv lb,iv (k:Int)] w λv w'=>v=iv ((L.frm+k % L.n:Nat):Int)/\Fm (λ_=>False) w w':=by
 obtain⟨P,mb,kv,M,hi⟩:=h.ex;have h1:=h.wf.big;have h2:=h.wf.n4;have e1:=eF (TypeDesc.int .i64) (n:=k) (m:=L.n) oM hk (b:=(L.n:Int)) rfl;have hm:=Kj k (oM:0<L.n);have e2:IntKind.i64.wrap ((L.frm:Int)+((k % L.n:Nat):Int))=((L.frm+k % L.n:Nat):Int):=by rw[af]<;>omega
 refine c255 ?_;simp only[RS,hi.c1,hi.c2,e1,e2,JF];exact Fm.drew _ _
theorem lB(h:LAt w X lb db L){k:Nat}(hk:L.base<=k*54+1)(hk2:k*54+1<=L.tail):Cl prog 260 [pv lb,iv (k:Int)] w λv w'=>v=stv (L.bytes k)/\Fm (λ_=>False) w w':=by
 obtain⟨P,mb,kv,M,hi⟩:=h.ex;have h1:=h.wf.low;have h2:=h.wf.small;have ht:L.tail=L.base+L.kept.length:=rfl;have hfd:=Fm.drew (λ_=>False) w;have e1:IntKind.i64.wrap (((k*54+1:Nat):Int) - (L.base:Int))=((k*54+1 - L.base:Nat):Int):=by rw[af]<;>omega
 have e2:IntKind.i64.wrap (((k*54+1 - L.base:Nat):Int)+54)=((k*54+1 - L.base+54:Nat):Int):=by rw[af]<;>omega
 have e3:min ((k*54+1 - L.base+54:Nat):Int) ((L.kept.length:Nat):Int)=((min (k*54+1 - L.base+54) L.kept.length:Nat):Int):=oM;refine c260 ?_;refine⟨λw'=>LIn w' X P lb db mb kv M L,hi.aS hfd,?_⟩;simp only[RS];refine⟨iv (L.base:Int),λw' h'=>?_,?_⟩
 ·simp only[RS,h'.c3]<;>trivial
 refine(gL w.drew oM).mono ?_;rintro _ _ ⟨rfl,rfl⟩;refine⟨hi.aS hfd,?_⟩;have hfd2:=Fmf hfd (Fm.drew (λ_=>False) w.drew);have hi2:=hi.aS hfd2;obtain⟨u,q1,q2⟩:=hi2.kp.cut (P:=prog) B38 (i:=k*54+1 - L.base) (j:=min (k*54+1 - L.base+54) L.kept.length) oM oM;simp only[RS,e1,hi.c4,e2,hi.kp.lenV,xk,e3,q1,JF];have e4:(L.kept.drop (k*54+1 - L.base)).take (min (k*54+1 - L.base+54) L.kept.length - (k*54+1 - L.base))=L.bytes k:=by unfold Lg.bytes;rw[List.take_eq_take_iff,G4];omega
 rw[e4] at q2;exact ag q2 ⟨rfl,rfl,hfd2⟩
end
theorem qJ(L:Lg)(f k:Nat)(d:Dk)(h:L.tail<=k*54+1):L.flushGo f k d=(d,0):=by
 cases f with
 | zero=>rfl
 | succ f=>
  rw[Lg.flushGo];have:decide (k*54+1<L.tail)=false:=by rw[C7];omega
  rw[this];rfl
def FD(lb db g m:Nat)(y:Nat):Prop:=y=lb\/y=db\/y=g\/y=m
theorem rP{w:World}{X:Nat->Prop}{lb db g m:Nat}{L:Lg}{d:Dk}(h:LAt w X lb db L)(hd:DAt w db g m d)(hX:¬X db/\¬X g/\¬X m)(upto:Int):
  Cl prog 186 [pv lb,iv upto] w λv w'=>v=iv (L.flush upto d).2.2/\LAt w' X lb db (L.flush upto d).1/\DAt w' db g m (L.flush upto d).2.1/\Fm (FD lb db g m) w w':=by
 have h1:=h.wf.st;have h2:=h.wf.low;have h3:=h.wf.hi;have h4:=h.wf.bs;have hb:=Lg.baseOf_le h1.1;rw[<- h4] at hb;have ht:L.tail=L.base+L.kept.length:=rfl;have up0:∀{a b:World},Fm (λ_=>False) a b->Fm (FD lb db g m) a b:=λhf=>hf.mono (λ_ _ e=>e.elim);have hXD:∀y,X y->¬(y=db\/y=g\/y=m):=by
  rintro y hy (rfl|rfl|rfl)
  ·exact hX.1 hy
  ·exact hX.2.1 hy
  ·exact hX.2.2 hy
 have hfl:L.flush upto d=bif decide (upto<(L.last:Int))||decide (L.last=L.tail) then(L,d,0) else
   bif decide ((L.flushE d).2=0) then(bif decide ((L.flushE d).1.sync.2=0) then({ L with last:=L.tail },(L.flushE d).1.sync.1,0) else(L,(L.flushE d).1.sync.1,(L.flushE d).1.sync.2))
   else(L,(L.flushE d).1,(L.flushE d).2):=rfl
 refine c186 ?_;simp only[RS];refine(eh h).mono ?_;rintro _ w2 ⟨rfl,hf2⟩;have hL2:=h.aS hf2;have hd2:=hd.aS hf2;obtain⟨P,mb,kv,M,hi2⟩:=hL2.ex;cases e1:decide (upto<(L.last:Int)) with
 | true=>rw[e1,Jv,D8] at hfl;rw[hfl];simp only[RS,hi2.c6,e1];exact⟨tV,hL2,hd2,up0 hf2⟩
 | false=>
 have e2:((L.last:Int) ==(L.tail:Int))=decide (L.last=L.tail):=by rw[aV,G9];omega
 cases e3:decide (L.last=L.tail) with
 | true=>rw[e1,e3,Jf,D8] at hfl;rw[hfl];simp only[RS,hi2.c6,e1,e2,e3];exact⟨tV,hL2,hd2,up0 hf2⟩
 | false=>
 rw[e1,e3,Jf,C8] at hfl;rw[C7] at e3;have h3':=h3 oM;have e3':decide (L.last=L.tail)=false:=by simpa using e3
 have hbl:L.base<=(L.last - 1) / 54*54+1:=by rw[h4];unfold Lg.baseOf;omega
 simp only[RS,hi2.c6,e1,e2,e3'];refine(iI w2 (n:=L.last) oM oM).mono ?_;rintro _ w2 ⟨rfl,rfl⟩;refine⟨λvs w'=>∃(k f:Nat) (e:Dk),vs=[iv (k:Int)]/\L.base<=k*54+1/\L.tail<=k*54+1+f/\k*54<=4611686018427600000/\LAt w' X lb db L/\DAt w' db g m e/\Fm (λy=>y=db\/y=g\/y=m) w w'/\L.flushGo f k e=L.flushE d,
  λvs _=>((L.tail:Int) - 54*nth vs 0).toNat,⟨(L.last - 1) / 54,L.kept.length+1,d,rfl,?_,?_,?_,hL2,hd2,hf2.mono (λ_ _ e=>e.elim),rfl⟩,?_⟩
 ·exact hbl
 ·omega
 ·omega
 rintro _ w3 kval ⟨k,f,e,hvs,k1,k2,k3,hL3,hd3,hF3,hgo⟩;cases hvs;refine(gL w3 (k:=k) oM).mono ?_;rintro _ w3 ⟨rfl,rfl⟩;by_cases hlt:k*54+1<L.tail
 ·have d1:decide (((k*54+1:Nat):Int)<(L.tail:Int))=true:=by rw[C4];omega
  have d2:decide (k*54+1<L.tail)=true:=by rw[C4];exact hlt
  obtain⟨f',rfl⟩:∃f',f=f'+1:=⟨f - 1,oM⟩;rw[Lg.flushGo,d2,D8] at hgo;simp only[RS,d1];have hfd:=Fm.drew (λ_=>False) w3;refine⟨λw'=>Fm (λ_=>False) w3 w',hfd,?_⟩;refine⟨pv db,λw' h'=>?_,?_⟩
  ·obtain⟨P',mb',kv',M',hi'⟩:=(hL3.aS h').ex;simp only[RS,hi'.c0]<;>trivial
  refine(qk (hL3.aS hfd) (k:=k) oM).mono ?_;rintro _ w4 ⟨rfl,hf4⟩;have hF4:=Fmf hfd hf4;refine⟨hF4,?_⟩;refine(lB (hL3.aS hF4) k1 oM).mono ?_;rintro _ w5 ⟨rfl,hf5⟩;have hF5:=Fmf hF4 hf5;refine⟨hF5,?_⟩;refine(mR w5 (k:=k) oM (Lg.bytes_len L k)).mono ?_;rintro _ w6 ⟨rfl,hf6⟩;have hF6:=Fmf hF5 hf6;refine⟨hF6,?_⟩;refine(bS (hd3.aS hF6) ((L.frm+k % L.n:Nat):Int) (nQ k (L.bytes k)) (by rw[Lg.seal_len (Lg.bytes_len L k)];omega)).mono ?_;rintro _ w7 ⟨rfl,hd7,hf7⟩;have hL7:=(hL3.aS hF6).keep hf7 hXD;have hF7:Fm (λy=>y=db\/y=g\/y=m) w w7:=(hF3.trans (hF6.mono (λ_ _ e=>e.elim)) (λ_ _ e=>e) (λ_ _ e=>e)).trans hf7 (λ_ _ e=>e) (λ_ _ e=>e);have hput:e.write ((L.frm+k % L.n:Nat):Int) (nQ k (L.bytes k))=L.put k e:=rfl;rw[hput] at hd7 ⊢;simp only[RS,aF];cases hz:decide ((L.put k e).2=0) with
  | false=>
   rw[hz,C8] at hgo;have hz2:decide ((L.flushE d).2=0)=false:=by rw[<- hgo];exact hz
   rw[hz2,C8,<- hgo] at hfl;rw[hfl];simp only[RS];exact⟨tV,hL7,hd7,hF7.mono (λ_ _ e=>.inr e)⟩
  | true=>
   rw[hz,D8] at hgo;have e5:IntKind.i64.wrap ((k:Int)+1)=((k+1:Nat):Int):=by rw[af]<;>omega
   simp only[RS,e5];exact⟨⟨k+1,f',(L.put k e).1,rfl,oM,oM,oM,hL7,hd7,hF7,hgo⟩,by simp only[ba];omega⟩
 ·have d1:decide (((k*54+1:Nat):Int)<(L.tail:Int))=false:=by rw[C7];omega
  rw[qJ L f k e oM] at hgo;rw[<- hgo] at hfl;simp only[Jm,D8] at hfl;obtain⟨P3,mb3,kv3,M3,hi3⟩:=hL3.ex;simp only[RS,d1,hi3.c0];refine(di hd3).mono ?_;rintro _ w4 ⟨rfl,hd4,hf4⟩;have hL4:=hL3.keep hf4 hXD;have hF4:=hF3.trans hf4 (λ_ _ e=>e) (λ_ _ e=>e);simp only[RS,aF];cases hz:decide (e.sync.2=0) with
  | false=>rw[hz,C8] at hfl;rw[hfl];simp only[RS];exact⟨tV,hL4,hd4,hF4.mono (λ_ _ e=>.inr e)⟩
  | true=>rw[hz,D8] at hfl;rw[hfl];obtain⟨P4,mb4,kv4,M4,hi4⟩:=hL4.ex;simp only[RS];refine au hi4.st (by show 6<9;decide) rfl ?_;intro w5 hw5 hs5 hf5;have hlb:=hL4.lb;refine⟨tV,⟨h.wf.last,P4,mb4,kv4,M4,hi4.upd hw5 hf5 rfl rfl⟩,hd4.keep hf5 (λe=>hX.1 (by rw[e];exact hlb)) (λe=>hX.2.1 (by rw[e];exact hlb)) (λe=>hX.2.2 (by rw[e];exact hlb)),(hF4.mono (λ_ _ e=>.inr e)).trans hf5 (λ_ _ e=>e) (λ_ _ e=>.inl e)⟩
theorem xo(w:World){s t:Bs}(h:t.length<=s.length)(hs:s.length<=9223372036854775807):Cl prog 149 [stv s,stv t] w λv w'=>v=.bool (decide (s.take t.length=t))/\w'=w:=by
 refine c149 ?_;refine(?_:Cl prog 244 [stv s,stv t] w λv w'=>v=.bool (decide (s.take t.length=t))/\w'=w).mono iT;refine c244 ?_;have d1:decide ((t.length:Int)<=(s.length:Int))=true:=by rw[C4];omega
 simp only[RS,aq,d1,gl h,br];exact⟨tV,tV⟩
theorem xp(w:World){s t:Bs}(h:t.length<=s.length)(hs:s.length<=9223372036854775807):Cl prog 319 [stv s,stv t] w λv w'=>v=.bool (decide (s.drop (s.length - t.length)=t))/\w'=w:=by
 refine c319 ?_;refine(?_:Cl prog 379 [stv s,stv t] w λv w'=>v=.bool (decide (s.drop (s.length - t.length)=t))/\w'=w).mono iT;refine c379 ?_;have d1:decide ((t.length:Int)<=(s.length:Int))=true:=by rw[C4];omega
 have e1:IntKind.i64.wrap ((s.length:Int) - (t.length:Int))=((s.length - t.length:Nat):Int):=by rw[af]<;>omega
 have e2:slS (stv s) (some (iv ((s.length - t.length:Nat):Int))) none=some (stv (s.drop (s.length - t.length))):=eP oM .i64;simp only[RS,aq,d1,e1,e2,br];exact⟨tV,tV⟩
theorem EV(a b:Nat):aR (.int .u8 (a:Int)) (.int .u8 (b:Int))=some (.int .u8 ((min a b:Nat):Int)):=by show some (Value.int .u8 (if (b:Int)<(a:Int) then(b:Int) else(a:Int)))=_;congr 2;split<;>omega
theorem qh(w:World){s:Bs}(hs:s.length=64){k:Nat}(hk:k+1<=9223372036854775807):Cl prog 256 [stv s,iv (k:Int)] w λv w'=>v=stv (opened s k)/\Fm (λ_=>False) w w':=by
 have h4:=Lg.blk_len k;refine c256 ?_;refine(fY w hk).mono ?_;rintro _ w2 ⟨rfl,hf2⟩;refine(xo w2 (s:=s) (t:=tM k) oM oM).mono ?_;rintro _ w2 ⟨rfl,rfl⟩;rw[h4];unfold opened;cases e1:decide (s.take 4=tM k) with
 | false=>simp only[RS,Jq,C8];exact⟨tV,hf2⟩
 | true=>
 simp only[RS,JD];refine(fY w2 hk).mono ?_;rintro _ w3 ⟨rfl,hf3⟩
 try simp only[RS]
 refine(xp w3 (s:=s) (t:=tM k) oM oM).mono ?_;rintro _ w3 ⟨rfl,rfl⟩;rw[h4,hs];have hF:=Fmf hf2 hf3;rw[show 64 - 4=60 from rfl];cases e2:decide (s.drop 60=tM k) with
 | false=>simp only[RS,C8];exact⟨tV,hF⟩
 | true=>
 have i4:ixS (stv s) (iv 4)=some (.int .u8 (((s.getD 4 0).toNat:Nat):Int)):=dF (k:=4) oM;have i59:ixS (stv s) (iv 59)=some (.int .u8 (((s.getD 59 0).toNat:Nat):Int)):=dF (k:=59) oM;have e5:slS (stv s) (some (iv 5)) none=some (stv (s.drop 5)):=eP (i:=5) oM .i64;have ef:aB aR [.int .u8 (((s.getD 4 0).toNat:Nat):Int),.int .u8 (((s.getD 59 0).toNat:Nat):Int),.int .u8 54]=some (.int .u8 ((min (min (s.getD 4 0).toNat (s.getD 59 0).toNat) 54:Nat):Int)):=by
  simp only[aB,aO,EV,IW];rw[show(Value.int .u8 54)=.int .u8 ((54:Nat):Int) from rfl,EV]
  rfl
 have e6:slS (stv (s.drop 5)) none (some (.int .u8 ((min (min (s.getD 4 0).toNat (s.getD 59 0).toNat) 54:Nat):Int)))=some (stv ((s.drop 5).take (min (min (s.getD 4 0).toNat (s.getD 59 0).toNat) 54))):=gl (by rw[G4];omega) .u8;simp only[RS,e5,i4,i59,ef,e6,D8];exact⟨tV,Fmf hF (Fm.drew _ _)⟩
theorem ta{d:Dk}(h:d.Wf){a:Int}(he:(d.read a 1).2=0):(d.read a 1).1.length=64:=by
 unfold Dk.read at he ⊢;cases hg:d.gone with
 | true=>rw[hg] at he;cases he
 | false=>
  rw[hg,C8] at he;rw[C8];cases hh:d.has a 1 with
  | false=>rw[hh] at he;cases he
  | true=>simp only[JE,C8];unfold Dk.has at hh;rw[C4] at hh;rw[Dk.flat_len (λx hx=>h.s1 x (List.mem_of_mem_drop (List.mem_of_mem_take hx))),E5,G4];have:(1:Int).toNat=1:=rfl;rw[this];omega
def bu(d:Dk)(frm n k:Nat):Nat->Nat->Bs->Bs×Int
 | 0,i,out=>(out,0)
 | f+1,i,out=>bif decide ((d.read ((frm+(k+i) % n:Nat):Int) 1).2=0) then
   (bif decide ((opened (d.read ((frm+(k+i) % n:Nat):Int) 1).1 (k+i)).length<54) then(out++opened (d.read ((frm+(k+i) % n:Nat):Int) 1).1 (k+i),0)
    else bu d frm n k f (i+1) (out++opened (d.read ((frm+(k+i) % n:Nat):Int) 1).1 (k+i)))
  else([],(d.read ((frm+(k+i) % n:Nat):Int) 1).2)
theorem mq(s:Bs)(k:Nat):(opened s k).length<=54:=by
 unfold opened;cases decide (s.take 4=tM k)&&decide (s.drop 60=tM k) with
 | true=>rw[D8,E5];omega
 | false=>simp
section
variable{w:World}{X P:Nat->Prop}{lb db mb:Nat}{kv:Value}{M:List (Int×Array Value)}{L:Lg}
theorem nX(hi:LIn w X P lb db mb kv M L)(h1:L.frm+L.n<=65536)(h2:4<=L.n){k:Nat}(hk:k<=9223372036854775807):Cl prog 255 [pv lb,iv (k:Int)] w λv w'=>v=iv ((L.frm+k % L.n:Nat):Int)/\Fm (λ_=>False) w w':=by
 have e1:=eF (TypeDesc.int .i64) (n:=k) (m:=L.n) oM hk (b:=(L.n:Int)) rfl;have hm:=Kj k (oM:0<L.n);have e2:IntKind.i64.wrap ((L.frm:Int)+((k % L.n:Nat):Int))=((L.frm+k % L.n:Nat):Int):=by rw[af]<;>omega
 refine c255 ?_;simp only[RS,hi.c1,hi.c2,e1,e2,JF];exact Fm.drew _ _
theorem vn{g m:Nat}{d:Dk}(hi:LIn w X P lb db mb kv M L)(h1:L.frm+L.n<=65536)(h2:4<=L.n)(hd:DAt w db g m d){k:Nat}(hk:k<=9000000000000000000):
  Cl prog 168 [pv lb,iv (k:Int)] w λv w'=>∃u,v=.tuple #[u,iv (bu d L.frm L.n k L.n 0 []).2]/\w'.ownsRow w.heap.size 5 1 u (bu d L.frm L.n k L.n 0 []).1.length (bc (bu d L.frm L.n k L.n 0 []).1)/\Fm (λ_=>False) w w':=by
 refine c168 ?_;refine aJ (λvs w2=>∃u,vs=[u]/\(bu d L.frm L.n k L.n 0 []).2=0/\w2.ownsRow w.heap.size 5 1 u (bu d L.frm L.n k L.n 0 []).1.length (bc (bu d L.frm L.n k L.n 0 []).1)/\Fm (λ_=>False) w w2) ?_ ?_
 ·rintro _ w2 ⟨u,rfl,q1,q2,q3⟩ _;exact⟨u,rfl,u,by rw[q1],q2,q3⟩
 intro kk hkk;simp only[RS,hi.c2];refine⟨λvs w'=>∃(i:Nat) (out:Bs) (ov:Value),vs=[ov,iv (i:Int)]/\i<=L.n/\w'.ownsRow w.heap.size 5 1 ov out.length (bc out)/\out.length<=54*i/\Fm (λ_=>False) w w'/\bu d L.frm L.n k (L.n - i) i out=bu d L.frm L.n k L.n 0 [],
  λvs _=>(L.n - nth vs 1).toNat,⟨0,[],_,rfl,oM,World.ownsRow_nil _ _ _ _,sI,Fm.refl _ _,rfl⟩,?_⟩
 rintro _ w3 ov ivv ⟨i,out,ov',hvs,hin,ho,hol,hF3,hgo⟩;cases hvs;by_cases hlt:i<L.n
 ·have d1:decide ((i:Int)<(L.n:Int))=true:=by rw[C4];omega
  have e1:IntKind.i64.wrap ((k:Int)+(i:Int))=((k+i:Nat):Int):=by rw[af]<;>omega
  have e2:IntKind.i64.wrap ((i:Int)+1)=((i+1:Nat):Int):=by rw[af]<;>omega
  have hsub:L.n - i=(L.n - (i+1))+1:=oM;rw[hsub,bu] at hgo;have hfd:=Fm.drew (λ_=>False) w3;have hFd:=Fmf hF3 hfd;simp only[RS,d1];refine⟨λw'=>Fm (λ_=>False) w3 w',hfd,?_⟩;refine⟨pv db,λw' h'=>?_,?_⟩
  ·have hc0:=(hi.aS (Fmf hF3 h')).c0;simp only[RS,hc0]<;>trivial
  simp only[RS,e1];refine(nX (hi.aS hFd) h1 h2 (k:=k+i) oM).mono ?_;rintro _ w4 ⟨rfl,hf4⟩;have hF4:=Fmf hfd hf4;refine⟨hF4,?_⟩;have hF4':=Fmf hF3 hF4;refine(fL (hd.aS hF4') ((L.frm+(k+i) % L.n:Nat):Int) 1).mono ?_;rintro _ w4 ⟨rfl,rfl⟩;have hrl:=ta hd.wf (a:=((L.frm+(k+i) % L.n:Nat):Int));generalize d.read ((L.frm+(k+i) % L.n:Nat):Int) 1=rd at hgo hrl;simp only[RS,aF];cases hz:decide (rd.2=0) with
  | false=>rw[hz,C8] at hgo;rw[<- hgo];simp only[RS];exact⟨_,tV,World.ownsRow_nil _ _ _ _,hF4'⟩
  | true=>
  rw[hz,D8] at hgo;rw[C4] at hz;simp only[RS];refine(qh w4 (hrl hz) (k:=k+i) oM).mono ?_;rintro _ w5 ⟨rfl,hf5⟩;have hF5:=Fmf hF4 hf5;have ho5:=ah ho hF5 (λ_ _ _ _ e=>e);have hz5:=(Fmf hF3 hF5).size;have hol2:=mq rd.1 (k+i);generalize opened rd.1 (k+i)=b at hgo hol2;have d2:decide ((b.length:Int)<54)=decide (b.length<54):=by rw[G9];omega
  obtain⟨v',w6,hr6,ho6,hf6,_⟩:=gr B38 ho5 b 57 oM hz5;refine ag hr6 ?_;have hlt6:=aP ho5;have hF6:Fm (λ_=>False) w w6:=Fm.own (Fmf hF3 hF5) hf6 (λy hy=>(hlt6 y hy).1);rw[<- C5] at ho6;simp only[RS,aq,d2,e2];cases hs:decide (b.length<54) with
  | true=>rw[hs,D8] at hgo;simp only[RS];exact hkk _ _ ⟨v',rfl,by rw[<- hgo],by rw[<- hgo];exact ho6,hF6⟩
  | false=>rw[hs,C8] at hgo;simp only[RS];exact⟨⟨i+1,out++b,v',rfl,oM,ho6,by rw[C5];omega,hF6,hgo⟩,by simp only[cK];omega⟩
 ·have hie:i=L.n:=oM;subst hie;have d1:decide ((L.n:Int)<(L.n:Int))=false:=sI;rw[Jh,bu] at hgo;simp only[RS,d1];exact hkk _ _ ⟨ov,rfl,by rw[<- hgo],by rw[<- hgo];exact ho,hF3⟩
end
def clr(n:Nat):Nat->Nat->List Bs->List Bs
 | 0,_,W=>W
 | f+1,k,W=>clr n f (k+1) (W.set (k % n) [])
theorem wG(n:Nat):∀(f k:Nat) (W:List Bs),(clr n f k W).length=W.length
 | 0,_,W=>rfl
 | f+1,k,W=>by rw[clr,wG n f];simp
def Lg.bY(L:Lg):Nat:=(L.tail - 1) / 54
def Lg.j8(L:Lg):List Bs:=clr L.n (L.bY - (L.start - 1) / 54) ((L.start - 1) / 54) (List.replicate L.n Dk.zsec)
def Lg.want(L:Lg):List Bs:=bif decide (L.bytes L.bY=[]) then L.j8 else L.j8.set (L.bY % L.n) (nQ L.bY (L.bytes L.bY))
theorem Bc(L:Lg):L.want.length=L.n:=by
 have:L.j8.length=L.n:=by unfold Lg.j8;rw[wG];simp
 unfold Lg.want;cases decide (L.bytes L.bY=[]) with
 | true=>exact this
 | false=>simp[this]
def dc(frm:Nat):List Bs->Nat->Bool->Dk->Bool×Dk×Int
 | [],_,wr,d=>(wr,d,0)
 | x::l,i,wr,d=>
  bif decide (x=[]) then dc frm l (i+1) wr d
  else bif decide ((d.read ((frm+i:Nat):Int) 1).2=0) then
   (bif decide ((d.read ((frm+i:Nat):Int) 1).1=x) then dc frm l (i+1) wr d
    else bif decide ((d.write ((frm+i:Nat):Int) x).2=0) then dc frm l (i+1) true (d.write ((frm+i:Nat):Int) x).1 else(true,(d.write ((frm+i:Nat):Int) x).1,(d.write ((frm+i:Nat):Int) x).2))
  else(wr,d,(d.read ((frm+i:Nat):Int) 1).2)
def Lg.iO(L:Lg)(d:Dk):Bool×Dk×Int:=dc L.frm L.want 0 false d
def Lg.iN(L:Lg)(d:Dk):Dk×Int:=bif decide ((L.iO d).2.2=0) then(bif (L.iO d).1 then(L.iO d).2.1.sync else((L.iO d).2.1,0)) else(L.iO d).2
theorem wH(n:Nat):∀(f k:Nat) (W:List Bs) (x:Bs),x∈clr n f k W->x∈W\/x=[]
 | 0,_,W,x,h=>.inl h
 | f+1,k,W,x,h=>by
  rw[clr] at h;rcases wH n f _ _ x h with h|h
  ·exact JC h
  ·exact .inr h
theorem Bd{L:Lg}{x:Bs}(h:x∈L.want):x.length<=64:=by
 have h1:∀x∈L.j8,x.length<=64:=by
  intro x hx;rcases wH _ _ _ _ _ hx with h|rfl
  ·rw[(List.mem_replicate.1 h).2];simp[Dk.zsec]
  ·simp
 unfold Lg.want at h;cases hb:decide (L.bytes L.bY=[]) with
 | true=>rw[hb] at h;exact h1 x h
 | false=>
  rw[hb,C8] at h;rcases JC h with h|rfl
  ·exact h1 x h
  ·rw[Lg.seal_len (Lg.bytes_len L _)];omega
theorem tB{L:Lg}{d e:Dk}{wr:Bool}{er:Int}(h:L.iO d=(wr,e,er))(he:er≠0):L.iN d=(e,er):=by unfold Lg.iN;rw[h];simp[he]
theorem DI{L:Lg}{d e:Dk}{wr:Bool}(h:L.iO d=(wr,e,0)):L.iN d=bif wr then e.sync else(e,0):=by unfold Lg.iN;rw[h];rfl
theorem Hj(w:World)(n:Nat)(h:n<=1000000):(Instr.makeSlice 66 (iv n) (iv n)).run prog w=.ok (.slice (some ⟨w.heap.size,0,none⟩) n n) (w.alloc (.cells (List.replicate n (stv [])).toArray 9)):=by obtain⟨i,h1,h2,h3,h4⟩:=xr (P:=prog) (e:=9) (z:=stv []) (n:=1) (b:=16) kR;exact VRow.make Tryz.underlying66 h1 h2 h3 rfl w n (by rw[h4];omega) oM
def Dm(db g m:Nat)(y:Nat):Prop:=y=db\/y=g\/y=m
structure WW (w w' : World) (q : Nat) (X : Nat → Prop) (lb db g m : Nat) (L : Lg) (e : Dk) (W : List Bs) : Prop where
 hL : LAt w' X lb db L
 hd : DAt w' db g m e
 hr : VRow w' q 9 (W.map stv)
 hF : Fm (Dm db g m) w w'
 hq : w.heap.size ≤ q
 hX : ∀ y, X y → y < w.heap.size
 hD : db < w.heap.size ∧ g < w.heap.size ∧ m < w.heap.size
 hXD : ∀ y, X y → ¬ Dm db g m y
section
variable{w w' w2:World}{q:Nat}{X:Nat->Prop}{lb db g m:Nat}{L:Lg}{e e':Dk}{W:List Bs}
theorem WW.aS(h:WW w w' q X lb db g m L e W)(hf:Fm (λ_=>False) w' w2):WW w w2 q X lb db g m L e W:=⟨h.hL.aS hf,h.hd.aS hf,h.hr.keep hf id,h.hF.trans hf iT iE,h.hq,h.hX,h.hD,h.hXD⟩
theorem WW.put(h:WW w w' q X lb db g m L e W){i:Nat}(hi:i<W.length){x:Bs}{k:KV}(hk:∀w2,WW w w2 q X lb db g m L e (W.set i x)->k undef w2):St 1 w' (.pointer (some ⟨q,i,none⟩)) (stv x) k:=by
 refine h.hr.put (by simpa using hi) rfl ?_;intro w2 h1 h2 h3;have hq:=h.hq;rw[<- Kz] at h1;refine hk w2 ⟨h.hL.keep h3 (λy hy e=>?_),h.hd.keep h3 (λe=>?_) (λe=>?_) (λe=>?_),h1,Fm.step h.hF h3 (λy hy=>.inr (hy▸hq)),hq,h.hX,h.hD,h.hXD⟩
 ·have:=h.hX y hy;omega
 ·have:=h.hD.1;omega
 ·have:=h.hD.2.1;omega
 ·have:=h.hD.2.2;omega
theorem WW.o7(h:WW w w' q X lb db g m L e W)(hd:DAt w2 db g m e')(hf:Fm (λy=>y=db\/y=g\/y=m) w' w2):WW w w2 q X lb db g m L e' W:=by have hq:=h.hq;have hD:=h.hD;refine⟨h.hL.keep hf h.hXD,hd,h.hr.keep hf ?_,h.hF.trans hf iT iT,hq,h.hX,h.hD,h.hXD⟩;rintro(e|e|e)<;>omega
end
end Go.Proofs.YtmdmffeoehfjgaaGreatDoor
