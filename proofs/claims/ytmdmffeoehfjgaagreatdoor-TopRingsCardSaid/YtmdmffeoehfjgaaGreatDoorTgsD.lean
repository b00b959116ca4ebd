/- Laid for one claim by slim.py out of: parts. -/
import Derived.Test.YtmdmffeoehfjgaaGreatDoorTgsC
set_option maxRecDepth 100000
set_option maxHeartbeats 0
set_option linter.unusedVariables false
set_option linter.unusedSimpArgs false
set_option linter.unusedSectionVars false
open Go.Proofs.Tryz (prog)
namespace Go.Proofs.YtmdmffeoehfjgaaGreatDoor
open Go.Al Go.Proofs
open Go.ChangeMaps (setBlock)
theorem vr{w:World}{X:Nat->Prop}{lb db g m:Nat}{L:Lg}{d:Dk}(h:LAt w X lb db L)(hd:DAt w db g m d)(hX:∀y,X y->¬Dm db g m y):
  Cl prog 171 [pv lb] w λv w'=>v=iv (L.iN d).2/\LAt w' X lb db L/\DAt w' db g m (L.iN d).1/\Fm (Dm db g m) w w':=by
 have h1:=h.wf.st;have h2:=h.wf.low;have h4:=h.wf.bs;have h5:=h.wf.n4;have h6:=h.wf.big;have hb:=Lg.baseOf_le h1.1;rw[<- h4] at hb;obtain⟨P,mb,kv,M,hi⟩:=h.ex;refine c171 ?_;simp only[RS,hi.c2];refine ag (Hj w L.n oM) ?_;have hfa:=Fm.alloc (λ_=>False) w (.cells (List.replicate L.n (stv [])).toArray 9);have hr0:VRow (w.alloc (.cells (List.replicate L.n (stv [])).toArray 9)) w.heap.size 9 ((List.replicate L.n ([]:Bs)).map stv):=by rw[List.map_replicate];exact ay _ _
 have hW0:WW w (w.alloc (.cells (List.replicate L.n (stv [])).toArray 9)) w.heap.size X lb db g m L d (List.replicate L.n []):=⟨h.aS hfa,hd.aS hfa,hr0,hfa.mono iE,D9 _,h.lt,hd.lt,hX⟩;generalize w.alloc (.cells (List.replicate L.n (stv [])).toArray 9)=w1 at hW0;clear hr0 hfa;generalize w.heap.size=q at hW0;simp only[RS];refine⟨λvs w'=>∃i:Nat,vs=[iv (i:Int)]/\i<=L.n/\WW w w' q X lb db g m L d (List.replicate i Dk.zsec++List.replicate (L.n - i) []),λvs _=>(L.n - nth vs 0).toNat,⟨0,rfl,oM,hW0⟩,?_⟩;rintro _ w2 ivv ⟨i,hvs,hin,hW⟩;cases hvs;by_cases hlt:i<L.n
 ·have d1:decide ((i:Int)<(L.n:Int))=true:=by rw[C4];omega
  have e2:IntKind.i64.wrap ((i:Int)+1)=((i+1:Nat):Int):=by rw[af]<;>omega
  simp only[RS,d1];refine(bT w2 64 oM).mono ?_;rintro _ w3 ⟨rfl,hf3⟩;simp only[RS,dT hlt,IZ];refine(hW.aS hf3).put (x:=aG 64) (by simp;omega) ?_;intro w4 hW4;simp only[RS,e2];refine⟨⟨i+1,rfl,oM,?_⟩,by simp only[ba];omega⟩;have:(List.replicate i Dk.zsec++List.replicate (L.n - i) ([]:Bs)).set i (aG 64)=List.replicate (i+1) Dk.zsec++List.replicate (L.n - (i+1)) []:=by rw[JT _ _ sI,(oM:L.n - i=(L.n - (i+1))+1)];simp only[G3,Jh,JK,JR];rw[<- JK,List.replicate_succ',G7];rfl
  rw[<- this];exact hW4
 have hie:i=L.n:=oM;subst hie;have d1:decide ((L.n:Int)<(L.n:Int))=false:=sI;rw[Jh,List.replicate_zero,H1] at hW;simp only[RS,d1];clear d1 hlt hW0;refine(eh hW.hL).mono ?_;rintro _ w3 ⟨rfl,hf3⟩;have hW3:=hW.aS hf3;refine(iI w3 (n:=L.tail) oM oM).mono ?_;rintro _ w3 ⟨rfl,rfl⟩;obtain⟨P3,mb3,kv3,M3,hi3⟩:=hW3.hL.ex;simp only[RS,hi3.c5];refine(iI w3 (n:=L.start) oM oM).mono ?_;rintro _ w3 ⟨rfl,rfl⟩;have hlb:(L.tail - 1) / 54=L.bY:=rfl;rw[hlb];have hle:(L.start - 1) / 54<=L.bY:=by unfold Lg.bY;omega
 have hlm:L.bY*54+1<=L.tail:=by unfold Lg.bY;omega
 have hbl:L.base<=L.bY*54+1:=by rw[h4];unfold Lg.baseOf Lg.bY;omega
 refine⟨λvs w'=>∃(k:Nat) (W:List Bs),vs=[iv (k:Int)]/\k<=L.bY/\W.length=L.n/\clr L.n (L.bY - k) k W=L.j8/\WW w w' q X lb db g m L d W,λvs _=>(L.bY - nth vs 0).toNat,⟨(L.start - 1) / 54,_,rfl,hle,sI,rfl,hW3⟩,?_⟩;rintro _ w4 kvv ⟨k,W,hvs,hk,hWl,hcl,hW4⟩;cases hvs;by_cases hlt:k<L.bY
 ·have d1:decide ((k:Int)<(L.bY:Int))=true:=by rw[C4];omega
  have e2:IntKind.i64.wrap ((k:Int)+1)=((k+1:Nat):Int):=by rw[af]<;>omega
  have e3:=eF (TypeDesc.int .i64) (n:=k) (m:=L.n) oM oM (b:=(L.n:Int)) rfl;have hm:=Kj k (oM:0<L.n);obtain⟨P4,mb4,kv4,M4,hi4⟩:=hW4.hL.ex;simp only[RS,d1,hi4.c2,e3,dT hm,IZ];refine hW4.put (x:=[]) oM ?_;intro w5 hW5;simp only[RS,e2];refine⟨⟨k+1,_,rfl,oM,by simpa using hWl,?_,hW5⟩,by simp only[ba];omega⟩;rw[<- hcl,(oM:L.bY - k=(L.bY - (k+1))+1),clr]
 have hke:k=L.bY:=oM;subst hke;have d1:decide ((L.bY:Int)<(L.bY:Int))=false:=sI;rw[Jh,clr] at hcl;subst hcl;simp only[RS,d1];clear d1 hlt;refine aJ (λvs w5=>vs=[]/\WW w w5 q X lb db g m L d L.want) ?_ ?_
 ·rintro _ w5 ⟨rfl,hW5⟩ _;refine⟨rfl,?_⟩;have hwl:=Bc L
  try simp only[RS]
  refine⟨λvs w'=>∃(wr:Bool) (i:Nat) (e:Dk),vs=[.bool wr,iv (i:Int)]/\i<=L.n/\dc L.frm (L.want.drop i) i wr e=L.iO d/\WW w w' q X lb db g m L e L.want,λvs _=>(L.n - nth vs 1).toNat,⟨false,0,d,rfl,oM,by rw[J6];rfl,hW5⟩,?_⟩;rintro _ w6 wrv ivv ⟨wr,i,e,hvs,hin,hgo,hW6⟩;cases hvs;by_cases hlt:i<L.n
  ·have d1:decide ((i:Int)<(L.n:Int))=true:=by rw[C4];omega
   have e2:IntKind.i64.wrap ((i:Int)+1)=((i+1:Nat):Int):=by rw[af]<;>omega
   have e3:IntKind.i64.wrap ((L.frm:Int)+(i:Int))=((L.frm+i:Nat):Int):=by rw[af]<;>omega
   have hx:L.want[i]?=some L.want[i]:=C6 oM;have hdr:=Jo (oM:i<L.want.length);generalize L.want[i]=x at hx hdr;rw[hdr,dc] at hgo;have hc:∀{w'},WW w w' q X lb db g m L e L.want->w'.cell? ⟨q,i,none⟩=some (stv x):=λhw=>by rw[hw.hr.cell,E4,hx];rfl
   have hxl:x.length<=64:=Bd (F7 hx);simp only[RS,d1];refine aJ (λvs w7=>∃(wr':Bool) (e':Dk),vs=[.bool wr']/\dc L.frm (L.want.drop (i+1)) (i+1) wr' e'=L.iO d/\WW w w7 q X lb db g m L e' L.want) ?_ ?_
   ·rintro _ w7 ⟨wr',e',rfl,hgo',hW7⟩ _;refine⟨_,rfl,?_⟩;simp only[RS,e2];exact⟨⟨wr',i+1,e',rfl,oM,hgo',hW7⟩,by simp only[cK];omega⟩
   intro kk hkk;simp only[RS,dT hlt,IZ,hc hW6,cN,br];cases hz:decide (x=[]) with
   | true=>rw[hz,D8] at hgo;simp only[RS];exact hkk _ _ ⟨wr,e,rfl,hgo,hW6⟩
   | false=>
   rw[hz,C8] at hgo;have hW7:=hW6.aS (Fm.drew _ w6);obtain⟨P7,mb7,kv7,M7,hi7⟩:=hW7.hL.ex;have hi7c0:w6.cell? ⟨lb,0,none⟩=some (pv db):=hi7.c0;have hi7c1:w6.cell? ⟨lb,1,none⟩=some (iv (L.frm:Int)):=hi7.c1;simp only[RS,hi7c0,hi7c1,e3,JF];refine(fL hW7.hd ((L.frm+i:Nat):Int) 1).mono ?_;rintro _ w8 ⟨rfl,rfl⟩;have hrn:=ta hW7.hd.wf (a:=((L.frm+i:Nat):Int));generalize hrd:e.read ((L.frm+i:Nat):Int) 1=rd at hgo hrn;simp only[RS];refine aJ (λvs w9=>∃(wr':Bool) (e':Dk) (er:Int),vs=[.bool wr',iv er]/\WW w w9 q X lb db g m L e' L.want/\((er=0/\dc L.frm (L.want.drop (i+1)) (i+1) wr' e'=L.iO d)\/(er≠0/\L.iN d=(e',er)))) ?_ ?_
   ·rintro _ w9 ⟨wr',e',er,rfl,hW9,hcase⟩ _;refine⟨_,_,rfl,?_⟩;simp only[RS,aF];rcases hcase with⟨rfl,hgo'⟩|⟨hne,hwp⟩
    ·simp only[RS,Jm];exact hkk _ _ ⟨wr',e',rfl,hgo',hW9⟩
    ·have:decide (er=0)=false:=by simpa using hne
     rw[hwp];simp only[RS,this];exact⟨tV,hW9.hL,hW9.hd,hW9.hF⟩
   intro jj hjj;simp only[RS,aV];cases hz0:decide (rd.2=0) with
   | false=>rw[hz0,C8] at hgo;rw[C7] at hz0;simp only[RS];exact hjj _ _ ⟨wr,e,rd.2,rfl,hW7,.inr ⟨hz0,tB hgo.symm hz0⟩⟩
   | true=>
   rw[hz0,D8] at hgo;rw[C4] at hz0;simp only[RS,br];cases hz1:decide (rd.1=x) with
   | true=>rw[hz1,D8] at hgo;simp only[RS];exact hjj _ _ ⟨wr,e,rd.2,rfl,hW7,.inl ⟨hz0,hgo⟩⟩
   | false=>
   rw[hz1,C8] at hgo;have hW10:=hW7.aS (Fm.drew _ w6.drew);simp only[RS,hi7c0,hi7c1,e3];refine(bS hW10.hd ((L.frm+i:Nat):Int) x oM).mono ?_;rintro _ w11 ⟨rfl,hd11,hf11⟩;have hW11:=hW10.o7 hd11 hf11;generalize e.write ((L.frm+i:Nat):Int) x=wd at hgo hW11;cases hz2:decide (wd.2=0) with
   | true=>rw[hz2,D8] at hgo;rw[C4] at hz2;exact hjj _ _ ⟨true,wd.1,wd.2,rfl,hW11,.inl ⟨hz2,hgo⟩⟩
   | false=>rw[hz2,C8] at hgo;rw[C7] at hz2;exact hjj _ _ ⟨true,wd.1,wd.2,rfl,hW11,.inr ⟨hz2,tB hgo.symm hz2⟩⟩
  ·have hie:i=L.n:=oM;subst hie;have d1:decide ((L.n:Int)<(L.n:Int))=false:=sI;rw[JA oM,dc] at hgo;have hwp:=DI hgo.symm;simp only[RS,d1];cases wr with
   | false=>rw[C8] at hwp;rw[hwp];simp only[RS];exact⟨tV,hW6.hL,hW6.hd,hW6.hF⟩
   | true=>rw[D8] at hwp;rw[hwp];obtain⟨P7,mb7,kv7,M7,hi7⟩:=hW6.hL.ex;simp only[RS,hi7.c0];refine(di hW6.hd).mono ?_;rintro _ w8 ⟨rfl,hd8,hf8⟩;have hW8:=hW6.o7 hd8 hf8;exact⟨rfl,hW8.hL,hW8.hd,hW8.hF⟩
 ·intro kk hkk;refine(lB hW4.hL hbl hlm).mono ?_;rintro _ w5 ⟨rfl,hf5⟩;have hW5:=hW4.aS hf5;simp only[RS,cN,br];cases hz:decide (L.bytes L.bY=[]) with
  | true=>
   have hwant:L.want=L.j8:=by unfold Lg.want;rw[hz];rfl
   simp only[RS];exact hkk _ _ ⟨rfl,by rw[hwant];exact hW5⟩
  | false=>
   have hwant:L.want=L.j8.set (L.bY % L.n) (nQ L.bY (L.bytes L.bY)):=by unfold Lg.want;rw[hz];rfl
   have hfd:=Fm.drew (λ_=>False) w5;have e3:=eF (TypeDesc.int .i64) (n:=L.bY) (m:=L.n) oM oM (b:=(L.n:Int)) rfl;have hm:=Kj L.bY (oM:0<L.n);simp only[RS];refine⟨λw'=>Fm (λ_=>False) w5 w',hfd,?_⟩;refine⟨iv (L.n:Int),λw' h'=>?_,?_⟩
   ·obtain⟨P',mb',kv',M',hi'⟩:=(hW5.aS h').hL.ex;simp only[RS,hi'.c2]<;>trivial
   simp only[RS,e3];refine(mR w5.drew (k:=L.bY) oM (Lg.bytes_len L _)).mono ?_;rintro _ w6 ⟨rfl,hf6⟩;have hF6:=Fmf hfd hf6;refine⟨hF6,?_⟩;simp only[RS,dT hm,IZ];refine(hW5.aS hF6).put oM ?_;intro w7 hW7;exact hkk _ _ ⟨rfl,by rw[hwant];exact hW7⟩
def gV(d:Dk)(frm n:Int):Bool:=decide (4<=n)&&(decide (0<=frm)&&(decide (n<=d.cur.length)&&decide (frm<=d.cur.length - n)))
theorem mN{w:World}{b g m:Nat}{d:Dk}(h:DAt w b g m d)(frm n:Int):Cl prog 161 [pv b,iv frm,iv n] w λv w'=>v=.bool (gV d frm n)/\w'=w:=by
 have hn:=h.wf.n1;unfold gV;refine c161 ?_;cases e1:decide (4<=n) with
 | false=>simp only[RS,e1,Jq];exact⟨tV,tV⟩
 | true=>
 cases e2:decide (0<=frm) with
 | false=>simp only[RS,e1,e2,Jq,J7];exact⟨tV,tV⟩
 | true=>
 simp only[RS,e1,e2];refine(cG h).mono ?_;rintro _ w ⟨rfl,rfl⟩;cases e3:decide (n<=(d.cur.length:Int)) with
 | false=>simp only[RS,e3,Jq,J7];exact⟨tV,tV⟩
 | true=>
 simp only[RS,e3];refine(cG h).mono ?_;rintro _ w ⟨rfl,rfl⟩;rw[C4] at e1 e3;have e4:IntKind.i64.wrap ((d.cur.length:Int) - n)=(d.cur.length:Int) - n:=by rw[af];omega
 simp only[RS,e4,JD];exact⟨tV,tV⟩
def zt(d:Dk)(frm n:Int):Dk×Int:=bif gV d frm n then(bif decide ((d.write frm (aG (n*64).toNat)).2=0) then(d.write frm (aG (n*64).toNat)).1.sync else d.write frm (aG (n*64).toNat)) else(d,1)
theorem Eu(db mb:Nat)(frm n a b c:Int)(w:World):(Instr.build 207 #[(0,pv db),(1,iv frm),(2,iv n),(3,iv a),(5,iv b),(6,iv c),(8,.map (some mb))]).run prog w=.ok (.agg #[pv db,iv frm,iv n,iv a,.slice none 0 0,iv b,iv c,iv 0,.map (some mb)]) w:=kR
theorem Ck(db mb:Nat)(frm n a b:Int)(w:World):(Instr.build 207 #[(0,pv db),(1,iv frm),(2,iv n),(3,iv a),(5,iv b),(8,.map (some mb))]).run prog w=.ok (.agg #[pv db,iv frm,iv n,iv a,.slice none 0 0,iv b,iv 0,iv 0,.map (some mb)]) w:=kR
theorem qf{w:World}{b g m:Nat}{d:Dk}(h:DAt w b g m d)(frm n:Int):Cl prog 69 [pv b,iv frm,iv n] w λv w'=>∃p,v=.tuple #[p,iv (zt d frm n).2]/\DAt w' b g m (zt d frm n).1/\Fm (Dm b g m) w w' /\
  ((zt d frm n).2≠0->p=.pointer none)/\((zt d frm n).2=0->∃lb X,p=pv lb/\LAt w' X lb b (Lg.new frm.toNat n.toNat)/\∀y,X y->w.heap.size<=y):=by
 have hn:=h.wf.n1;have hlt:=h.lt;have up:∀{w1:World},Fm (λ_=>False) w w1->Fm (Dm b g m) w w1:=λhf=>hf.mono iE;unfold zt;refine c69 ?_;refine(mN h frm n).mono ?_;rintro _ w ⟨rfl,rfl⟩;cases hfi:gV d frm n with
 | false=>simp only[RS,C8];exact⟨_,tV,h,Fm.refl _ _,λ_=>rfl,λe=>absurd e dC⟩
 | true=>
 have hfi':=hfi;unfold gV at hfi';simp only[E0,C4] at hfi';obtain⟨f1,f2,f3,f4⟩:=hfi';obtain⟨j,rfl⟩:=E9 (oM:0<=n);obtain⟨i,rfl⟩:=E9 f2;have e1:IntKind.i64.wrap ((j:Int)*64)=((j*64:Nat):Int):=by rw[af]<;>omega
 have e2:((j:Int)*64).toNat=j*64:=oM;rw[e2];simp only[RS,e1,D8];refine(bT w (j*64) oM).mono ?_;rintro _ w1 ⟨rfl,hf1⟩;refine(bS (h.aS hf1) (i:Int) (aG (j*64)) (by rw[Lg.zeros_len'];omega)).mono ?_;rintro _ w2 ⟨rfl,hd2,hf2⟩;have hF2:=(up hf1).trans hf2 iT iT;generalize d.write (i:Int) (aG (j*64))=e at hd2;simp only[RS,aF];cases hz:decide (e.2=0) with
 | false=>rw[C7] at hz;simp only[RS,C8];exact⟨_,tV,hd2,hF2,λ_=>rfl,λe=>absurd e hz⟩
 | true=>
 simp only[RS,D8];refine(di hd2).mono ?_;rintro _ w3 ⟨rfl,hd3,hf3⟩;have hF3:=hF2.trans hf3 iT iT;generalize e.1.sync=s at hd3;simp only[RS,aF];cases hz2:decide (s.2=0) with
 | false=>rw[C7] at hz2;simp only[RS];exact⟨_,tV,hd3,hF3,λ_=>rfl,λe=>absurd e hz2⟩
 | true=>
 rw[C4] at hz2;simp only[RS];refine ag (bf _ _) ?_;have hM:=MapAt.empty w3 iv Value.agg;have hfm:=Fm.alloc (λ_=>False) w3 (.map #[] 0);have hms:=aE w3 (.map #[] 0);generalize w3.alloc (.map #[] 0)=w4 at hM hfm hms;refine ag (Eu b w3.heap.size _ _ _ _ _ _) ?_;refine ae ?_;intro lb w5 hlb hs5 hw5 hf5;have hF5:=Fmf hfm hf5;have z3:=hF3.size;refine⟨_,by rw[hz2],hd3.aS hF5,hF3.trans hF5 iT iE,λe=>absurd hz2 e,λ_=>⟨lb,λy=>y=lb\/y=w3.heap.size,rfl,⟨Lg.wf_new oM oM,λ_=>False,w3.heap.size,.slice none 0 0,[],hw5,KpAt.nil _ _,hM.keep hf5 id,rfl,(λk cs hm=>by cases hm),⟨.inl rfl,.inr rfl,(λy hy=>by cases hy),λy hy=>hy.elim⟩,⟨id,id,(λy hy e=>e)⟩,?_⟩,?_⟩⟩
 ·rintro y (rfl|rfl)<;>omega
 ·rintro y (rfl|rfl)<;>omega
theorem Cd{P:Program}{t e s:TypeId}(B:ByteT P t e s){w:World}{v:Value}{L:Bs}{e':TypeId}(h:KpAt w e' v L){i:Nat}(hi:i<=L.length):
  ∃u,slV 1 v (some (.int .i64 i)) none none=some u/\(convert t s u).run P w=.ok (stv (L.drop i)) w:=by
 rcases h with⟨rfl,rfl⟩|⟨g,cap,cur,rfl,hg,hnc,hcm,hcs,htake⟩
 ·simp at hi;subst hi;exact⟨.slice none 0 0,rfl,nn B w 0 0⟩
 ·obtain⟨o',h1,h2,h3⟩:=yN (g:=g) (o:=0) (n:=L.length) (c:=cap) hi hnc .i64;refine⟨_,h1,?_⟩;have hx:BX w g e' L:=⟨cur,_,hg,htake,oM,.inl rfl⟩;by_cases hc:i<cap
  ·rw[h2 hc,E7];have:=hx.conv (P:=P) B (o:=i) (n:=L.length - i) oM (cap - i)
   rw[G0 (by rw[G4];omega)] at this;exact this
  ·have e1:L.length - i=0:=oM;rw[e1,JA oM];have:=hx.conv (P:=P) B (o:=o') (n:=0) oM (cap - i)
   rw[List.take_zero] at this;exact this
theorem Fl{g n c j:Nat}(hj:j<=c):slV 1 (.slice (some ⟨g,0,none⟩) n c) none (some (iv (j:Int))) (some (iv (j:Int)))=some (.slice (some ⟨g,0,none⟩) j j):=by have e1:bnd c c (some (iv (j:Int)))=some j:=eL hj .i64;have e2:bnd j n (some (iv (j:Int)))=some j:=eL (D9 j) .i64;have e3:bnd j 0 none=some 0:=rfl;simp only[slV,Bq,e1,e2,e3,IW,I2,JX,Kl];have:(⟨g,0,none⟩:Addr).add 0=⟨g,0,none⟩:=rfl;rw[this,ite_self]
theorem Cc{w:World}{e:TypeId}{v:Value}{L:Bs}(h:KpAt w e v L){j:Nat}(hj:j<=L.length):
  ∃u,slV 1 v none (some (iv (j:Int))) (some (iv (j:Int)))=some u/\KpAt w e u (L.take j)/\∀y,u.ownBlock=some y->v.ownBlock=some y:=by
 rcases h with⟨rfl,rfl⟩|⟨g,cap,cur,rfl,hg,hnc,hcm,hcs,htake⟩
 ·simp at hj;subst hj;exact⟨.slice none 0 0,rfl,KpAt.nil _ _,λy hy=>hy⟩
 ·have hl:(L.take j).length=j:=by rw[E5];omega
  refine⟨_,Fl oM,.inr ⟨g,j,cur,by rw[hl],hg,oM,oM,oM,?_⟩,λy hy=>hy⟩;rw[hl,<- vP,<- htake,List.take_take,JL hj]
def gG(base:Nat)(all:Bs):Nat->Nat->List Rc->List Rc×Nat
 | 0,e,out=>(out,e)
 | f+1,e,out=>match (gi (all.drop e)).1 with
  | none=>(out,e)
  | some r=>bif decide (r.lsn=((base+e:Nat):Int)) then gG base all f (e+(gi (all.drop e)).2.1) (out++[r]) else(out,e)
def keyed(out:List Rc):List (Int×Rc):=out.map λr=>(r.lsn,r)
def bn(start:Nat):Nat:=start - Lg.baseOf start
def dH(d:Dk)(frm n start:Nat):Bs:=bif decide ((bu d frm n ((start - 1) / 54) n 0 []).1.length<bn start) then aG (bn start) else(bu d frm n ((start - 1) / 54) n 0 []).1
def sS(d:Dk)(frm n start:Nat):List Rc×Nat:=gG (Lg.baseOf start) (dH d frm n start) ((dH d frm n start).length+1) (bn start) []
def oc(d:Dk)(frm n start:Nat):Lg:=⟨frm,n,Lg.baseOf start,(dH d frm n start).take (sS d frm n start).2,start,Lg.baseOf start+(sS d frm n start).2,0,keyed (sS d frm n start).1⟩
def mu(d:Dk)(frm n start:Int):Dk×Int:=
 bif !(gV d frm n)||decide (start<1) then(d,1) else bif d.gone then(d,5) else
 bif decide ((bu d frm.toNat n.toNat ((start.toNat - 1) / 54) n.toNat 0 []).2=0) then(oc d frm.toNat n.toNat start.toNat).iN d else(d,(bu d frm.toNat n.toNat ((start.toNat - 1) / 54) n.toNat 0 []).2)
theorem LIn.addRec{w w':World}{X P P1:Nat->Prop}{lb db mb:Nat}{kv:Value}{M:List (Int×Array Value)}{L L':Lg}(h:LIn w X P lb db mb kv M L){cs:Array Value}{r:Rc}{k:Int}(hh:Held w P1 cs r)(h1:∀y,P1 y->y<w.heap.size/\¬X y)(hk:getD L.recs k=none)
  (hM:MapAt w' mb iv Value.agg (cM M k cs)) (hf:Fm (·=mb) w w') (hst:lgc db mb kv L'=lgc db mb kv L) (hkp:L'.kept=L.kept) (hrc:L'.recs=cM L.recs k r):LIn w' (λy=>X y\/P1 y) (λy=>P y\/P1 y) lb db mb kv (cM M k cs) L':=by
 have hnd:getD M k=none:=by rw[getD_none,h.keys,<- getD_none];exact hk
 refine⟨by rw[hst];exact hf.heap h.st h.nm.symm,by rw[hkp];exact h.kp.keep hf (λy hy e=>h.km (by rw[hy,e])),hM,by rw[hrc,cR,cR,h.keys],?_,⟨.inl h.xs.1,.inl h.xs.2.1,λy hy=>.inl (h.xs.2.2.1 y hy),λy hy=>hy.imp (h.xs.2.2.2 y) id⟩,⟨?_,?_,?_⟩,λy hy=>E3 ?_ hf.size⟩
 ·intro k' cs' hm;rw[dg _ _ _ hnd] at hm;rw[hrc,dg _ _ _ hk];rcases H5.1 hm with hm|hm
  ·obtain⟨r',q1,q2⟩:=h.rec_ k' cs' hm;exact⟨r',List.mem_append_left _ q1,(q2.mono (λy hy=>.inl hy)).keep hf (by
    rintro y (hy|hy) rfl
    ·exact h.ps.2.1 hy
    ·exact(h1 _ hy).2 h.xs.2.1)⟩
  ·simp only[Jw,J9] at hm;obtain⟨rfl,rfl⟩:=hm;exact⟨_,List.mem_append_right _ sI,(hh.mono (λy hy=>.inr hy)).keep hf (by
    rintro y (hy|hy) rfl
    ·exact h.ps.2.1 hy
    ·exact(h1 _ hy).2 h.xs.2.1)⟩
 ·rintro(q|q)
  ·exact h.ps.1 q
  ·exact(h1 _ q).2 h.xs.1
 ·rintro(q|q)
  ·exact h.ps.2.1 q
  ·exact(h1 _ q).2 h.xs.2.1
 ·rintro y hy (q|q)
  ·exact h.ps.2.2 y hy q
  ·exact(h1 _ q).2 (h.xs.2.2.1 y hy)
 ·rcases hy with q|q
  ·exact h.lt y q
  ·exact(h1 y q).1
theorem rQ{w:World}{X P:Nat->Prop}{lb db mb:Nat}{kv:Value}{M:List (Int×Array Value)}{L:Lg}(hi:LIn w X P lb db mb kv M L)(hl:L.tail<=9223372036854775807):Cl prog 96 [pv lb] w λv w'=>v=iv (L.tail:Int)/\Fm (λ_=>False) w w':=by
 refine c96 ?_;have e1:IntKind.i64.wrap ((L.base:Int)+(L.kept.length:Int))=(L.tail:Int):=by unfold Lg.tail at hl ⊢;rw[af]<;>omega
 simp only[RS,hi.c3,hi.c4,hi.kp.lenV,e1,JF];exact Fm.drew _ _
theorem HK:ElemT prog 82 168 16 216:=bG Tryz.underlying82 kR
theorem EG(r:Rc)(a1 a2 a3 a4 a5:Option Addr)(n1 n2 n3 n4 n5 c1 c2 c3 c4 c5:Nat)(w:World):(Instr.buildSlice 82 1 #[(0,.agg (rcs r (.slice a1 n1 c1) (.slice a2 n2 c2) (.slice a3 n3 c3) (.slice a4 n4 c4) (.slice a5 n5 c5)))]).run prog w=.ok (.slice (some ⟨w.heap.size,0,none⟩) 1 1) (w.alloc (.cells (rcs r (.slice a1 n1 c1) (.slice a2 n2 c2) (.slice a3 n3 c3) (.slice a4 n4 c4) (.slice a5 n5 c5)) 168)):=kR
theorem ImAs.sl{w:World}{v:Value}{L:List (Int×Pg)}(h:ImAs w v L):∃a n c,v=.slice a n c:=by obtain⟨X,_,h2,_⟩:=h.ex;obtain⟨⟨a,c,rfl,_⟩,_⟩:=h2;exact⟨_,_,_,rfl⟩
theorem aZ{w:World}{v:Value}{n sz:Nat}{xs:List Value}(h:CellsAt w v n sz xs):∃a n c,v=.slice a n c:=by obtain⟨⟨a,c,rfl,_⟩,_⟩:=h;exact⟨_,_,_,rfl⟩
theorem GH{w:World}{cs:Array Value}{r:Rc}(h:RcAs w cs r)(w':World):(Instr.buildSlice 82 1 #[(0,.agg cs)]).run prog w'=.ok (.slice (some ⟨w'.heap.size,0,none⟩) 1 1) (w'.alloc (.cells cs.toList.toArray 168)):=by obtain⟨vs,vm,vi,vp,vt,rfl,_,h3,h4,h5,h6,h7⟩:=h.ex;obtain⟨a1,n1,c1,rfl⟩:=aZ h3;obtain⟨a2,n2,c2,rfl⟩:=aZ h4;obtain⟨a3,n3,c3,rfl⟩:=h5.sl;obtain⟨a4,n4,c4,rfl⟩:=aZ h6;obtain⟨a5,n5,c5,rfl⟩:=aZ h7;exact EG r _ _ _ _ _ _ _ _ _ _ _ _ _ _ _ w'
structure ON (w w' : World) (X P Q : Nat → Prop) (lb db mb g m : Nat) (M : List (Int × Array Value)) (L0 : Lg) (d : Dk) (av : Value) (all : Bs) (ov : Value) (C : List (Array Value)) (out : List Rc) : Prop where
 hi : LIn w' X P lb db mb nl M { L0 with recs := keyed out }
 hd : DAt w' db g m d
 ha : w'.ownsRow w.heap.size 5 1 av all.length (bc all)
 ho : w'.ownsRow w.heap.size 168 16 ov C.length (C.flatMap Array.toList)
 hl : C.length = out.length
 hC : ∀ (i : Nat) cs r, C[i]? = some cs → out[i]? = some r → Held w' Q cs r
 hF : Fm (fun _ => False) w w'
 hX : ∀ y, X y → w.heap.size ≤ y
 hQ : ∀ y, Q y → w.heap.size ≤ y ∧ y < w'.heap.size ∧ ¬ X y
 hon : ∀ y, ov.ownBlock = some y → ¬ X y ∧ ¬ Q y
 han : ∀ y, av.ownBlock = some y → ¬ X y ∧ ¬ Q y
 hD : ∀ y, Dm db g m y → y < w.heap.size
section
variable{w w1 w2:World}{X P Q:Nat->Prop}{lb db mb g m:Nat}{M:List (Int×Array Value)}{L0:Lg}{d:Dk}{av:Value}{all:Bs}{ov:Value}{C:List (Array Value)}{out:List Rc}
theorem ON.keep(h:ON w w1 X P Q lb db mb g m M L0 d av all ov C out){S:Nat->Prop}(hf:Fm S w1 w2)(hS:∀y,S y->w.heap.size<=y/\¬X y/\¬Q y/\ov.ownBlock≠some y/\av.ownBlock≠some y):ON w w2 X P Q lb db mb g m M L0 d av all ov C out:=by
 have hnd:∀y,Dm db g m y->¬S y:=λy hy e=>by have:=h.hD y hy;have:=(hS y e).1;omega
 refine⟨h.hi.keep hf (λy hy e=>(hS y e).2.1 hy),h.hd.keep hf (hnd _ (.inl rfl)) (hnd _ (.inr (.inl rfl))) (hnd _ (.inr (.inr rfl))),ah h.ha hf (λk _ _ e q=>(hS k q).2.2.2.2 e),ah h.ho hf (λk _ _ e q=>(hS k q).2.2.2.1 e),h.hl,λi cs r h1 h2=>(h.hC i cs r h1 h2).keep hf (λy hy e=>(hS y e).2.2.1 hy),Fm.own h.hF hf (λy e=>(hS y e).1),h.hX,λy hy=>?_,h.hon,h.han,h.hD⟩;obtain⟨q1,q2,q3⟩:=h.hQ y hy;exact⟨q1,E3 q2 hf.size,q3⟩
theorem ON.aS(h:ON w w1 X P Q lb db mb g m M L0 d av all ov C out)(hf:Fm (λ_=>False) w1 w2):ON w w2 X P Q lb db mb g m M L0 d av all ov C out:=h.keep hf (λ_ e=>e.elim)
theorem ON.new(h:ON w w1 X P Q lb db mb g m M L0 d av all ov C out){x:Nat}(hx:w1.heap.size<=x):w.heap.size<=x/\¬X x/\¬Q x/\ov.ownBlock≠some x/\av.ownBlock≠some x:=by
 have hz:=h.hF.size;refine⟨oM,λe=>?_,λe=>?_,λe=>?_,λe=>?_⟩
 ·have:=h.hi.lt x e;omega
 ·have:=(h.hQ x e).2.1;omega
 ·have:=(aP h.ho x e).2;omega
 ·have:=(aP h.ha x e).2;omega
theorem ON.add(h:ON w w1 X P Q lb db mb g m M L0 d av all ov C out){P1:Nat->Prop}{cs:Array Value}{r:Rc}(hh:Held w1 P1 cs r)(h1:∀y,P1 y->y<w1.heap.size/\w.heap.size<=y/\¬X y/\¬Q y/\ov.ownBlock≠some y/\av.ownBlock≠some y)(hk:∀q∈out,q.lsn≠r.lsn)
  (hM:MapAt w2 mb iv Value.agg (cM M r.lsn cs)) (hf:Fm (·=mb) w1 w2):
  LIn w2 (λy=>X y\/P1 y) (λy=>P y\/P1 y) lb db mb nl (cM M r.lsn cs) { L0 with recs:=keyed (out++[r]) }/\DAt w2 db g m d/\w2.ownsRow w.heap.size 5 1 av all.length (bc all)/\w2.ownsRow w.heap.size 168 16 ov C.length (C.flatMap Array.toList) /\
  (∀(i:Nat) cs r,C[i]?=some cs->out[i]?=some r->Held w2 Q cs r)/\Fm (λ_=>False) w w2:=by
 have hm:=h.hi.xs.2.1;have hmz:=h.hX mb hm;have hne:∀y,Dm db g m y->¬y=mb:=λy hy e=>by have:=h.hD y hy;omega
 have hkn:getD (keyed out) r.lsn=none:=by rw[getD_none];intro hmem;obtain⟨x,hx,hxe⟩:=E8.1 hmem;obtain⟨q,hq,rfl⟩:=E8.1 hx;exact hk q hq hxe
 refine⟨h.hi.addRec hh (λy hy=>⟨(h1 y hy).1,(h1 y hy).2.2.1⟩) hkn hM hf rfl rfl ?_,h.hd.keep hf (hne _ (.inl rfl)) (hne _ (.inr (.inl rfl))) (hne _ (.inr (.inr rfl))),ah h.ha hf (λk _ _ e q=>(h.han k e).1 (q▸hm)),ah h.ho hf (λk _ _ e q=>(h.hon k e).1 (q▸hm)),λi cs r q1 q2=>(h.hC i cs r q1 q2).keep hf (λy hy e=>(h.hQ y hy).2.2 (e▸hm)),Fm.own h.hF hf (by rintro y rfl;exact hmz)⟩;show keyed (out++[r])=cM (keyed out) r.lsn r;rw[dg _ _ _ hkn];simp[keyed]
end
theorem AQ(base:Nat)(all:Bs)(f e:Nat)(out:List Rc)(h:(gi (all.drop e)).1=none):gG base all f e out=(out,e):=by
 cases f with
 | zero=>rfl
 | succ f=>rw[gG,h]
theorem AR(base:Nat)(all:Bs)(f e:Nat)(out:List Rc){r:Rc}(h:(gi (all.drop e)).1=some r)(hr:¬r.lsn=((base+e:Nat):Int)):gG base all f e out=(out,e):=by
 cases f with
 | zero=>rfl
 | succ f=>
  rw[gG,h];have:decide (r.lsn=((base+e:Nat):Int))=false:=by simpa using hr
  simp only[this,C8]
theorem mC(d:Dk)(frm n k:Nat):∀(f i:Nat) (out:Bs),(bu d frm n k f i out).1.length<=out.length+54*f
 | 0,i,out=>by simp[bu]
 | f+1,i,out=>by
  rw[bu];have h1:=mq (d.read ((frm+(k+i) % n:Nat):Int) 1).1 (k+i);cases decide ((d.read ((frm+(k+i) % n:Nat):Int) 1).2=0) with
  | false=>simp
  | true=>
   rw[D8];cases decide ((opened (d.read ((frm+(k+i) % n:Nat):Int) 1).1 (k+i)).length<54) with
   | true=>rw[D8];simp only[C5];omega
   | false=>rw[C8];have:=mC d frm n k f (i+1) (out++opened (d.read ((frm+(k+i) % n:Nat):Int) 1).1 (k+i));rw[C5] at this;omega
structure OpnOk (w w' : World) (p ov : Value) (db : Nat) (L : Lg) (out : List Rc) : Prop where
 ex : ∃ (lb : Nat) (X Q : Nat → Prop) (C : List (Array Value)), p = pv lb ∧ LAt w' X lb db L ∧ w'.ownsRow w.heap.size 168 16 ov C.length (C.flatMap Array.toList) ∧ C.length = out.length ∧ (∀ (i : Nat) cs r, C[i]? = some cs → out[i]? = some r → Held w' Q cs r) ∧ (∀ y, X y → w.heap.size ≤ y) ∧ (∀ y, Q y → w.heap.size ≤ y ∧ y < w'.heap.size ∧ ¬ X y) ∧ ∀ y, ov.ownBlock = some y → ¬ X y ∧ ¬ Q y
theorem AA{w w4:World}{X P Q:Nat->Prop}{lb b mb g m:Nat}{M:List (Int×Array Value)}{d:Dk}{av:Value}{all:Bs}{ov:Value}{C:List (Array Value)}{out:List Rc}{i j s e:Nat}
  (hON:ON w w4 X P Q lb b mb g m M ⟨i,j,Lg.baseOf s,[],s,0,0,[]⟩ d av all ov C out) (hj:4<=j) (hij:i+j<=65536) (hs:1<=s) (he:e<=all.length) (hal:all.length<=4000000) (hah:bn s<=e) (hbe:Lg.baseOf s+e<=9223372036854775807)
  (hout:∀r∈out,(rCheck r).2=0/\(∀m∈r.imgs,m.2.lsn<=9223372036854775807)/\(s:Int)<=r.lsn/\r.lsn<((Lg.baseOf s+e:Nat):Int)) {K:Value->World->Prop}
  (hK1:∀w8,DAt w8 b g m ((⟨i,j,Lg.baseOf s,all.take e,s,Lg.baseOf s+e,0,keyed out⟩:Lg).iN d).1->Fm (Dm b g m) w w8->¬((⟨i,j,Lg.baseOf s,all.take e,s,Lg.baseOf s+e,0,keyed out⟩:Lg).iN d).2=0->K (.tuple #[.pointer none,nl,iv ((⟨i,j,Lg.baseOf s,all.take e,s,Lg.baseOf s+e,0,keyed out⟩:Lg).iN d).2]) w8)
  (hK2:∀w8,DAt w8 b g m ((⟨i,j,Lg.baseOf s,all.take e,s,Lg.baseOf s+e,0,keyed out⟩:Lg).iN d).1->Fm (Dm b g m) w w8->((⟨i,j,Lg.baseOf s,all.take e,s,Lg.baseOf s+e,0,keyed out⟩:Lg).iN d).2=0->OpnOk w w8 (pv lb) ov b ⟨i,j,Lg.baseOf s,all.take e,s,Lg.baseOf s+e,0,keyed out⟩ out->K (.tuple #[pv lb,ov,iv 0]) w8):
  Pu (slV 1 av none (some (iv (e:Int))) (some (iv (e:Int)))) λt106=>
   St 1 w4 (.pointer (some ⟨lb,4,none⟩)) t106 λu w_127=>
   Cl prog 96 [pv lb] w_127 λt111 w_129=>
   St 1 w_129 (.pointer (some ⟨lb,6,none⟩)) t111 λu2 w_133=>
   Cl prog 171 [pv lb] w_133 λt115 w_135=>
   Pu (aC (TypeDesc.int .i64) .neq t115 (Value.int .i64 0)) λt117=>
   IfB t117
    (K (.tuple #[(Value.pointer none),(Value.slice none 0 0),t115]) w_135)
    (K (.tuple #[pv lb,ov,(Value.int .i64 0)]) w_135):=by
 have hb:=Lg.baseOf_le hs;have hah':bn s=s - Lg.baseOf s:=rfl;obtain⟨u,q1,q2,q3⟩:=Cc (KpAt.aT hON.ha) he;have hlen:(all.take e).length=e:=by rw[E5];omega
 simp only[RS,q1];refine au hON.hi.st (by show 4<9;decide) q2.one ?_;intro w5 hw5 hs5 hf5;have hlbX:=hON.hi.xs.1;have hlbS:∀y,y=lb->w.heap.size<=y/\¬Q y/\ov.ownBlock≠some y/\av.ownBlock≠some y:=by rintro y rfl;exact⟨hON.hX y hlbX,λe=>(hON.hQ y e).2.2 hlbX,λe=>(hON.hon y e).1 hlbX,λe=>(hON.han y e).1 hlbX⟩
 have hi5:LIn w5 (λy=>X y\/av.ownBlock=some y) P lb b mb u M ⟨i,j,Lg.baseOf s,all.take e,s,0,0,keyed out⟩:=by
  refine⟨hw5,q2.keep hf5 (λy hy e=>?_),hON.hi.mp.keep hf5 hON.hi.nm,hON.hi.keys,λk cs hm=>?_,⟨.inl hlbX,.inl hON.hi.xs.2.1,λy hy=>.inr (q3 y hy),λy hy=>.inl (hON.hi.xs.2.2.2 y hy)⟩,⟨hON.hi.ps.1,hON.hi.ps.2.1,λy hy e=>(hON.han y (q3 y hy)).1 (hON.hi.xs.2.2.2 y e)⟩,?_⟩
  ·exact(hlbS y e).2.2.2 (q3 y hy)
  ·obtain⟨r,h1,h2⟩:=hON.hi.rec_ k cs hm;exact⟨r,h1,h2.keep hf5 (λy hy e=>hON.hi.ps.1 (e▸hy))⟩
  ·rintro y (hy|hy)
   ·have:=hON.hi.lt y hy;omega
   ·have:=(aP hON.ha y hy).2;omega
 have htl:(⟨i,j,Lg.baseOf s,all.take e,s,0,0,keyed out⟩:Lg).tail=Lg.baseOf s+e:=by show Lg.baseOf s+(all.take e).length=_;rw[hlen]
 refine(rQ hi5 (by rw[htl];exact hbe)).mono ?_;rintro _ w6 ⟨rfl,hf6⟩;rw[htl];have hi6:=hi5.aS hf6;refine au hi6.st (by show 6<9;decide) rfl ?_;intro w7 hw7 hs7 hf7;have hi7:LIn w7 (λy=>X y\/av.ownBlock=some y) P lb b mb u M ⟨i,j,Lg.baseOf s,all.take e,s,Lg.baseOf s+e,0,keyed out⟩:=hi6.upd hw7 hf7 rfl rfl;have hwf:(⟨i,j,Lg.baseOf s,all.take e,s,Lg.baseOf s+e,0,keyed out⟩:Lg).Wf:=by
  have ht:(⟨i,j,Lg.baseOf s,all.take e,s,Lg.baseOf s+e,0,keyed out⟩:Lg).tail=Lg.baseOf s+e:=by show Lg.baseOf s+(all.take e).length=_;rw[hlen]
  refine⟨hj,hij,rfl,⟨hs,?_,by rw[ht];exact D9 _⟩,by show(all.take e).length<=_;omega,by rw[ht];exact hbe,λh=>?_,⟨Kd _,by show(0:Int)<=_;omega⟩,?_⟩
  ·show s<=Lg.baseOf s+e;omega
  ·rw[ht] at h;exact absurd h (Nat.lt_irrefl _)
  ·intro p hp;obtain⟨r,hr,rfl⟩:=E8.1 hp;obtain⟨h1,h2,h3,h4⟩:=hout r hr;rw[ht];exact⟨rfl,h1,h2,h3,h4⟩
 have hX2:∀y,(X y\/av.ownBlock=some y)->w.heap.size<=y:=by
  rintro y (hy|hy)
  ·exact hON.hX y hy
  ·exact(aP hON.ha y hy).1
 have keep7:∀{S:Nat->Prop} {a c:World},Fm S a c->True:=λ_=>trivial;have hd7:DAt w7 b g m d:=by
  have hne:∀y,Dm b g m y->¬y=lb:=λy hy e=>by have:=hON.hD y hy;have:=(hlbS y e).1;omega
  exact((hON.hd.keep hf5 (hne _ (.inl rfl)) (hne _ (.inr (.inl rfl))) (hne _ (.inr (.inr rfl)))).aS hf6).keep hf7 (hne _ (.inl rfl)) (hne _ (.inr (.inl rfl))) (hne _ (.inr (.inr rfl)))
 have hF7:Fm (λ_=>False) w w7:=Fm.own (Fmf (Fm.own hON.hF hf5 (λy e=>(hlbS y e).1)) hf6) hf7 (λy e=>(hlbS y e).1);have ho7:=ah (ah (ah hON.ho hf5 (λk _ _ e q=>(hlbS k q).2.2.1 e)) hf6 (λ_ _ _ _ e=>e)) hf7 (λk _ _ e q=>(hlbS k q).2.2.1 e);have hC7:∀(i:Nat) cs r,C[i]?=some cs->out[i]?=some r->Held w7 Q cs r:=λi cs r h1 h2=>(((hON.hC i cs r h1 h2).keep hf5 (λy hy e=>(hlbS y e).2.1 hy)).keep hf6 (λ_ _ e=>e)).keep hf7 (λy hy e=>(hlbS y e).2.1 hy);refine(vr (L:=⟨i,j,Lg.baseOf s,all.take e,s,Lg.baseOf s+e,0,keyed out⟩) ⟨hwf,P,mb,u,M,hi7⟩ hd7 (λy hy e=>by have:=hX2 y hy;have:=hON.hD y e;omega)).mono ?_;rintro _ w8 ⟨rfl,hL8,hd8,hf8⟩;have hF8:Fm (Dm b g m) w w8:=(hF7.mono (λ_ _ e=>e.elim)).trans hf8 (λ_ _ e=>e) (λ_ _ e=>e);have hz7:=hF7.size;have hz8:=hf8.size;simp only[RS,aF];cases hz:decide (((⟨i,j,Lg.baseOf s,all.take e,s,Lg.baseOf s+e,0,keyed out⟩:Lg).iN d).2=0) with
 | false=>rw[C7] at hz;simp only[RS];exact hK1 w8 hd8 hF8 hz
 | true=>
  rw[C4] at hz;simp only[RS];refine hK2 w8 hd8 hF8 hz ⟨lb,_,Q,C,rfl,hL8,ah ho7 hf8 (λk hk _ _ q=>by have:=hON.hD k q;omega),hON.hl,λi cs r h1 h2=>(hC7 i cs r h1 h2).keep hf8 (λy hy e=>by have:=hON.hD y e;have:=(hON.hQ y hy).1;omega),hX2,?_,?_⟩
  ·intro y hy;obtain⟨p1,p2,p3⟩:=hON.hQ y hy;have z5:=hf5.size;have z6:=hf6.size;have z7:=hf7.size;refine⟨p1,oM,?_⟩;rintro(e|e)
   ·exact p3 e
   ·exact(hON.han y e).2 hy
  ·intro y hy;refine⟨?_,(hON.hon y hy).2⟩;rintro(e|e)
   ·exact(hON.hon y hy).1 e
   ·exact cj hON.ho hON.ha dC y hy e
theorem ux(d:Dk)(i j s:Nat)(hj:j<=65536)(hs:1<=s):bn s<=(dH d i j s).length/\(dH d i j s).length<=4000000:=by
 have h1:=mC d i j ((s - 1) / 54) j 0 [];have h2:=Lg.baseOf_le hs;simp only[Ja,E7] at h1;unfold dH;cases h:decide ((bu d i j ((s - 1) / 54) j 0 []).1.length<bn s) with
 | true=>rw[D8,Lg.zeros_len'];unfold bn;omega
 | false=>rw[C7] at h;rw[C8];omega
theorem vk{w:World}{b g m:Nat}{d:Dk}(h:DAt w b g m d)(frm n start:Int)(hst:start<=9223372036854775807):
  Cl prog 78 [pv b,iv frm,iv n,iv start] w λv w'=>∃p ov,v=.tuple #[p,ov,iv (mu d frm n start).2]/\DAt w' b g m (mu d frm n start).1/\Fm (Dm b g m) w w' /\ ((mu d frm n start).2≠0->p=.pointer none/\ov=nl)/\((mu d frm n start).2=0->OpnOk w w' p ov b (oc d frm.toNat n.toNat start.toNat) (sS d frm.toNat n.toNat start.toNat).1):=by
 have hn:=h.wf.n1;have hlt:=h.lt;have up:∀{w1:World},Fm (λ_=>False) w w1->Fm (Dm b g m) w w1:=λhf=>hf.mono iE;have bad:∀{w1:World} {er:Int},Fm (λ_=>False) w w1->er≠0->mu d frm n start=(d,er)->∃p ov,Value.tuple #[.pointer none,nl,iv er]=.tuple #[p,ov,iv (mu d frm n start).2]/\DAt w1 b g m (mu d frm n start).1/\Fm (Dm b g m) w w1 /\
   ((mu d frm n start).2≠0->p=.pointer none/\ov=nl)/\((mu d frm n start).2=0->OpnOk w w1 p ov b (oc d frm.toNat n.toNat start.toNat) (sS d frm.toNat n.toNat start.toNat).1):=λhf he hE=>by
  rw[hE];exact⟨_,_,rfl,h.aS hf,up hf,λ_=>⟨rfl,rfl⟩,λe=>absurd e he⟩
 have hE:mu d frm n start=bif !(gV d frm n)||decide (start<1) then(d,1) else bif d.gone then(d,5) else bif decide ((bu d frm.toNat n.toNat ((start.toNat - 1) / 54) n.toNat 0 []).2=0) then(oc d frm.toNat n.toNat start.toNat).iN d else(d,(bu d frm.toNat n.toNat ((start.toNat - 1) / 54) n.toNat 0 []).2):=rfl
 refine c78 ?_;refine(mN h frm n).mono ?_;rintro _ w0 ⟨rfl,rfl⟩;cases hfi:gV d frm n with
 | false=>rw[hfi,Bool.not_false,Jv,D8] at hE;simp only[RS];exact bad (Fm.refl _ _) dC hE
 | true=>
 cases e1:decide (start<1) with
 | true=>rw[e1,Bool.or_true,D8] at hE;simp only[RS,e1];exact bad (Fm.refl _ _) dC hE
 | false=>
 rw[hfi,e1,JE,Bool.or_self,C8] at hE;simp only[RS,e1];refine(lS h).mono ?_;rintro _ w0 ⟨rfl,rfl⟩;cases hg:d.gone with
 | true=>rw[hg,D8] at hE;simp only[RS];exact bad (Fm.refl _ _) dC hE
 | false=>
 rw[hg,C8] at hE;unfold gV at hfi;simp only[E0,C4] at hfi;obtain⟨f1,f2,f3,f4⟩:=hfi;rw[C7] at e1;obtain⟨j,rfl⟩:=E9 (oM:0<=n);obtain⟨i,rfl⟩:=E9 f2;obtain⟨s,rfl⟩:=E9 (oM:0<=start);simp only[H6] at hE bad ⊢;have hs:1<=s:=oM;have hj:4<=j:=oM;have hij:i+j<=65536:=oM;have hb:=Lg.baseOf_le hs;simp only[RS];refine(iI w0 (n:=s) hs oM).mono ?_;rintro _ w0 ⟨rfl,rfl⟩;refine(gL w0 (k:=(s - 1) / 54) oM).mono ?_;rintro _ w0 ⟨rfl,rfl⟩;rw[show(s - 1) / 54*54+1=Lg.baseOf s from rfl];refine ag (bf _ _) ?_;have hM:=MapAt.empty w0 iv Value.agg;have hfm:=Fm.alloc (λ_=>False) w0 (.map #[] 0);have hms:=aE w0 (.map #[] 0);generalize w0.alloc (.map #[] 0)=w1 at hM hfm hms;refine ag (Ck b w0.heap.size _ _ _ _ _) ?_;refine ae ?_;intro lb w2 hlb hs2 hw2 hf2;have hF2:=Fmf hfm hf2;have hi2:LIn w2 (λy=>y=lb\/y=w0.heap.size) (λ_=>False) lb b w0.heap.size nl [] ⟨i,j,Lg.baseOf s,[],s,0,0,[]⟩:=by refine⟨hw2,KpAt.nil _ _,hM.keep hf2 id,rfl,(λk cs hm=>by cases hm),⟨.inl rfl,.inr rfl,(λy hy=>by cases hy),λy hy=>hy.elim⟩,⟨id,id,(λy hy e=>e)⟩,?_⟩;rintro y (rfl|rfl)<;>omega
 refine(iI w2 (n:=s) hs oM).mono ?_;rintro _ w2 ⟨rfl,rfl⟩;refine(vn (L:=⟨i,j,Lg.baseOf s,[],s,0,0,[]⟩) hi2 hij hj (h.aS hF2) (k:=(s - 1) / 54) oM).mono ?_;rintro _ w3 ⟨u,rfl,hu,hf3⟩;have hF3:=Fmf hF2 hf3;have hi3:=hi2.aS hf3;obtain⟨ha1,ha2⟩:=ux d i j s oM hs;have ea:IntKind.i64.wrap ((s:Int) - (Lg.baseOf s:Int))=((bn s:Nat):Int):=by unfold bn;rw[af]<;>omega
 have hDl:∀y,Dm b g m y->y<w0.heap.size:=by
  rintro y (rfl|rfl|rfl)
  ·exact hlt.1
  ·exact hlt.2.1
  ·exact hlt.2.2
 have z2:=hF2.size;simp only[RS,aF];cases hz:decide ((bu d i j ((s - 1) / 54) j 0 []).2=0) with
 | false=>rw[hz,C8] at hE;rw[C7] at hz;simp only[RS];exact bad hF3 hz hE
 | true=>
 rw[hz,D8] at hE;simp only[RS,hi3.c3,ea];refine aJ (λvs w4=>∃av,vs=[av]/\ON w0 w4 (λy=>y=lb\/y=w0.heap.size) (λ_=>False) (λ_=>False) lb b w0.heap.size g m [] ⟨i,j,Lg.baseOf s,[],s,0,0,[]⟩ d av (dH d i j s) nl [] []) ?_ ?_
 ·rintro _ w4 ⟨av,rfl,hON⟩ _;refine⟨av,rfl,?_⟩;generalize hall:dH d i j s=all at ha1 ha2 hON;refine⟨λvs w'=>∃(e f:Nat) (out:List Rc) (ov:Value) (X P Q:Nat->Prop) (M:List (Int×Array Value)) (C:List (Array Value)),vs=[ov,iv (e:Int)]/\e<=all.length/\all.length<e+f/\bn s<=e/\out.length<=e/\(e=bn s\/Lg.baseOf s+e<=4611686018427500000) /\
   (∀r∈out,(rCheck r).2=0/\(∀m∈r.imgs,m.2.lsn<=9223372036854775807)/\(s:Int)<=r.lsn/\r.lsn<((Lg.baseOf s+e:Nat):Int))/\gG (Lg.baseOf s) all f e out=sS d i j s /\
   ON w0 w' X P Q lb b w0.heap.size g m M ⟨i,j,Lg.baseOf s,[],s,0,0,[]⟩ d av all ov C out,
   λvs _=>(all.length - nth vs 1).toNat,⟨bn s,all.length+1,[],_,_,_,_,_,_,rfl,ha1,oM,D9 _,sI,.inl rfl,(λr hr=>by cases hr),by rw[<- hall];rfl,hON⟩,?_⟩
  rintro _ w5 ovv evv ⟨e,f,out,ov,X,P,Q,M,C,hvs,he,hf,hae,hoe,hbe,hout,hsc,hON5⟩;cases hvs;have hahd:bn s=s - Lg.baseOf s:=rfl;have hbe':Lg.baseOf s+e<=9223372036854775807:=oM;have eb:IntKind.i64.wrap ((Lg.baseOf s:Int)+(e:Int))=((Lg.baseOf s+e:Nat):Int):=by rw[af]<;>omega
  obtain⟨u5,q1,q2⟩:=Cd (P:=prog) B38 (KpAt.aT hON5.ha) he;simp only[RS,q1];refine ag q2 ?_;refine(pJ w5 (all.drop e) (by rw[G4];omega)).mono ?_;rintro _ w6 ⟨cs,rfl,hok,hf6⟩;have hON6:=hON5.aS hf6;have hcz:=hok.as.size;have hone:=hok.as.one;simp only[RS];refine ae ?_;intro x w7 hx hs7 hw7 hf7;have hON7:=hON6.aS hf7;refine ao hw7 rfl hcz hone ?_;intro w8 hw8 hs8 hf8;have hnx:=hON6.new (x:=x) oM;have hON8:=hON7.keep hf8 (by rintro y rfl;exact hnx);have hON9:=hON8.aS (Fm.drew _ w8);have fin:sS d i j s=(out,e)->_:=λh1=>by
   have hLL:oc d i j s=⟨i,j,Lg.baseOf s,all.take e,s,Lg.baseOf s+e,0,keyed out⟩:=by unfold oc;rw[h1,hall]
   rw[hLL] at hE;exact AA hON9 hj hij hs he ha2 hae hbe' hout
    (K:=λv w'=>∃p ov,v=.tuple #[p,ov,iv (mu d ↑i ↑j ↑s).2]/\DAt w' b g m (mu d ↑i ↑j ↑s).1/\Fm (Dm b g m) w0 w'/\((mu d ↑i ↑j ↑s).2≠0->p=.pointer none/\ov=nl)/\((mu d ↑i ↑j ↑s).2=0->OpnOk w0 w' p ov b (oc d i j s) (sS d i j s).1))
    (λw9 hd9 hF9 hne=>⟨_,_,by rw[hE],by rw[hE];exact hd9,hF9,λ_=>⟨rfl,rfl⟩,λe=>absurd (by rw[hE] at e;exact e) hne⟩)
    (λw9 hd9 hF9 hz9 hok9=>⟨_,_,by rw[hE,hz9],by rw[hE];exact hd9,hF9,λe=>absurd (by rw[hE];exact hz9) e,λ_=>by rw[hLL,h1];exact hok9⟩)
  cases hrd:(gi (all.drop e)).1 with
  | none=>
   have hne:((gi (all.drop e)).2.2 != 0)=true:=by obtain⟨_,h1|h1|h1⟩:=Ab hrd<;>rw[h1]<;>rfl
   simp only[RS,hne];exact⟨trivial,trivial,fin (by rw[<- hsc];exact AQ _ _ _ _ _ hrd)⟩
  | some r=>
  obtain⟨ds1,ds2,ds3,ds4,ds5,ds6⟩:=wQ hrd;rw[hrd] at hok;have hheld6:=hok.held;obtain⟨vs,vm,vi,vp,vt,rfl,hrows,_⟩:=hok;have hw9:=(Fm.drew (λ_=>False) w8).heap hw8 id;have cx:w8.cell? ⟨x,0,none⟩=some (iv r.lsn):=by rw[ab hw8];rfl
  have cb:w8.cell? ⟨lb,3,none⟩=some (iv (Lg.baseOf s:Int)):=hON8.hi.c3;have hne:((gi (all.drop e)).2.2 != 0)=false:=by rw[ds2];rfl
  simp only[RS,hne,cx,cb,eb,aF,JF];cases hl:decide (r.lsn=((Lg.baseOf s+e:Nat):Int)) with
  | false=>rw[C7] at hl;simp only[RS];exact fin (by rw[<- hsc];exact AR _ _ _ _ _ hrd hl)
  | true=>
  have hlen:=Lg.enc_len ds1 ds6.lsns;rw[G4] at ds4;obtain⟨f',rfl⟩:∃f',f=f'+1:=⟨f - 1,oM⟩;rw[gG,hrd] at hsc;simp only[hl,D8] at hsc;rw[C4] at hl;have hlsn:r.lsn<=4611686018427387904:=(ds6.nums r.lsn (by unfold rNums;simp)).2;have e5:IntKind.i64.wrap ((e:Int)+((gi (all.drop e)).2.1:Int))=((e+(gi (all.drop e)).2.1:Nat):Int):=by rw[af]<;>omega
  have c8:w8.cell? ⟨lb,8,none⟩=some (.map (some w0.heap.size)):=hON8.hi.c8;have z6:=hf6.size;have z7:=hf7.size;have z8:=hf8.size;have hP1:∀y,(w5.heap.size<=y/\y<w6.heap.size)->¬y=x:=by rintro y ⟨_,hy⟩ rfl;omega
  have hheld9:Held w8.drew (λy=>w5.heap.size<=y/\y<w6.heap.size) (rcs r vs vm vi vp vt) r:=((hheld6.keep hf7 iT).keep hf8 (λy hy e=>hP1 y hy e)).keep (Fm.drew (λ_=>False) w8) iT;have hw9':w8.drew.drew.heap[x]?=some (.cells (rcs r vs vm vi vp vt) 168):=hw8;have hON9':=hON9.aS (Fm.drew _ w8.drew);have hheld9':=hheld9.keep (Fm.drew (λ_=>False) w8.drew) iT;have hP2:∀y,(w5.heap.size<=y/\y<w6.heap.size)->y<w8.drew.drew.heap.size/\w0.heap.size<=y/\¬X y/\¬Q y/\ovv.ownBlock≠some y/\av.ownBlock≠some y:=λy hy=>by obtain⟨p1,p2,p3,p4,p5⟩:=hON5.new hy.1;have zz:w8.drew.drew.heap.size=w8.heap.size:=rfl;exact⟨oM,p1,p2,p3,p4,p5⟩
  obtain⟨w10,hr10,hM10,hf10,hz10⟩:=bk Ea hON9'.hi.mp r.lsn (rcs r vs vm vi vp vt);obtain⟨hi10,hd10,ha10,ho10,hC10,hF10⟩:=hON9'.add hheld9' hP2 (λq hq e=>by have:=(hout q hq).2.2.2;omega) hM10 hf10;have hmbX:X w0.heap.size:=hON5.hi.xs.2.1;have hxm:x≠w0.heap.size:=λe=>by have:=hON5.hi.lt _ hmbX;omega
  have hw10:=hf10.heap hw9' hxm;simp only[RS,c8,aa hw9' (n:=16) rfl];refine cA hr10 ?_;simp only[RS,aa hw10 (n:=16) rfl];have zd:w8.drew.drew.heap.size=w8.heap.size:=rfl;have hheld10:=hheld9'.keep hf10 (λy hy e=>(hP2 y hy).2.2.1 (by rw[e];exact hmbX));refine(nF hheld10.now ds1).mono ?_;rintro _ w11 ⟨cs2,rfl,hheld2,hf11⟩;have z11:=hf11.size;have ho11:=ah ho10 hf11 (λ_ _ _ _ e=>e);have hF11:=Fmf hF10 hf11;have hCl:=hON5.hl;have hcs2:cs2.toList.length=16:=by rw[I8];exact hheld2.now.size
  refine lN HK oM 82 (cs:=cs2.toList) hcs2 (GH hheld2.now _) hheld2.now.one ho11 (by unfold maxLen;omega) oM hF11.size ?_;intro v' w12 ho12 hcase;have hF12:Fm (λy=>ovv.ownBlock=some y) w11 w12:=by
   rcases hcase with⟨q,k1,k2,k3⟩|⟨q,k1,k2,k3⟩
   ·exact k3.mono (by rintro y _ rfl;exact k1)
   ·exact k3.mono iE
  have hov:∀y,v'.ownBlock=some y->ovv.ownBlock=some y\/w11.heap.size<=y:=λy hy=>by
   rcases hcase with⟨q,k1,k2,k3⟩|⟨q,k1,k2,k3⟩
   ·rw[k2] at hy;cases hy;exact .inl k1
   ·rw[k1] at hy;cases hy;exact .inr k2
  have ovlt:∀y,ovv.ownBlock=some y->w0.heap.size<=y/\y<w5.heap.size:=λy hy=>aP hON5.ho y hy;have avlt:∀y,av.ownBlock=some y->w0.heap.size<=y/\y<w5.heap.size:=λy hy=>aP hON5.ha y hy;have z12:=hF12.size;have z10:=hf10.size;simp only[RS,e5];refine⟨⟨e+(gi (all.drop e)).2.1,f',out++[r],v',λy=>X y\/(w5.heap.size<=y/\y<w6.heap.size),λy=>P y\/(w5.heap.size<=y/\y<w6.heap.size),λy=>Q y\/(w10.heap.size<=y/\y<w11.heap.size),cM M r.lsn (rcs r vs vm vi vp vt),C++[cs2],rfl,oM,oM,oM,by rw[C5,List.length_singleton];omega,.inr oM,?_,hsc,?_⟩,by simp only[cK];omega⟩
  ·intro q hq;rcases H5.1 hq with hq|hq
   ·obtain⟨p1,p2,p3,p4⟩:=hout q hq;exact⟨p1,p2,p3,oM⟩
   ·simp only[Jw] at hq;subst hq;exact⟨ds1,ds6.lsns,oM,oM⟩
  ·have hX12:∀y,(X y\/(w5.heap.size<=y/\y<w6.heap.size))->¬ovv.ownBlock=some y:=by
    rintro y (hy|hy) e
    ·exact(hON5.hon y e).1 hy
    ·have:=(ovlt y e).2;omega
   have hne12:∀y,Dm b g m y->¬ovv.ownBlock=some y:=λy hy e=>by have:=hDl y hy;have:=(ovlt y e).1;omega
   refine⟨(hi10.aS hf11).keep hF12 hX12,(hd10.aS hf11).keep hF12 (hne12 _ (.inl rfl)) (hne12 _ (.inr (.inl rfl))) (hne12 _ (.inr (.inr rfl))),ah (ah ha10 hf11 (λ_ _ _ _ e=>e)) hF12 (λk _ _ e q=>cj hON5.ho hON5.ha dC k q e),?_,?_,?_,Fm.own hF11 hF12 (λy hy=>(ovlt y hy).1),?_,?_,?_,?_,hDl⟩
   ·rw[Jr,C5];simpa using ho12
   ·rw[C5,C5,hCl];rfl
   ·intro q cs' r' h1 h2;rw[List.getElem?_append] at h1 h2;rw[hCl] at h1;by_cases hq:q<out.length
    ·rw[IY hq] at h1 h2;exact(((hC10 q cs' r' h1 h2).keep hf11 iT).keep hF12 (λy hy e=>(hON5.hon y e).2 hy)).mono (λy hy=>.inl hy)
    ·rw[IT hq] at h1 h2;obtain⟨rfl,rfl⟩:cs2=cs'/\r=r':=by
      cases hqq:q - out.length with
      | zero=>rw[hqq] at h1 h2;simp at h1 h2;exact⟨h1,h2⟩
      | succ _=>rw[hqq] at h1;simp at h1
     exact(hheld2.keep hF12 (λy hy e=>by have:=(ovlt y e).2;omega)).mono (λy hy=>.inr hy)
   ·rintro y (hy|hy)
    ·exact hON5.hX y hy
    ·have:=hON5.hF.size;omega
   ·rintro y (hy|hy)
    ·obtain⟨p1,p2,p3⟩:=hON5.hQ y hy;refine⟨p1,oM,?_⟩;rintro(e|e)
     ·exact p3 e
     ·omega
    ·have:=hON5.hF.size;refine⟨oM,oM,?_⟩;rintro(e|e)
     ·have:=hON5.hi.lt y e;omega
     ·omega
   ·intro y hy;rcases hov y hy with e|e
    ·have:=(ovlt y e).2;refine⟨λq=>hX12 y q e,?_⟩;rintro(q|q)
     ·exact(hON5.hon y e).2 q
     ·omega
    ·refine⟨?_,?_⟩
     ·rintro(q|q)
      ·have:=hON5.hi.lt y q;omega
      ·omega
     ·rintro(q|q)
      ·have:=(hON5.hQ y q).2.1;omega
      ·omega
   ·intro y hy;have:=(avlt y hy).2;refine⟨?_,?_⟩
    ·rintro(q|q)
     ·exact(hON5.han y hy).1 q
     ·omega
    ·rintro(q|q)
     ·exact(hON5.han y hy).2 q
     ·omega
 ·intro kk hkk;have hlu:=(CellsAt.aT hu).lenV;have dl:decide (((bu d i j ((s - 1) / 54) j 0 []).1.length:Int)<((bn s:Nat):Int))=decide ((bu d i j ((s - 1) / 54) j 0 []).1.length<bn s):=by rw[G9];omega
  have z3:=hF3.size;simp only[RS,hlu,dl];cases hl:decide ((bu d i j ((s - 1) / 54) j 0 []).1.length<bn s) with
  | true=>
   have hall:dH d i j s=aG (bn s):=by unfold dH;rw[hl];rfl
   simp only[RS];refine ag (BRow.make B38 w3 (bn s) oM) ?_;have hfa:=Fm.alloc (λ_=>False) w3 (.cells (bc (List.replicate (bn s) 0)).toArray 5);have hrow:=cY (w:=w3) (e:=5) (sz:=1) (base:=w0.heap.size) (n:=bn s) (l:=bc (List.replicate (bn s) 0)) (by rw[bU];simp) oM (by unfold maxLen;omega);refine hkk _ _ ⟨_,rfl,hi3.aS hfa,h.aS (Fmf hF3 hfa),?_,World.ownsRow_nil _ _ _ _,rfl,(λi cs r h1=>by simp at h1),Fmf hF3 hfa,?_,(λy hy=>hy.elim),(λy hy=>by cases hy),?_,hDl⟩
   ·rw[hall,Lg.zeros_len'];exact hrow
   ·rintro y (rfl|rfl)<;>omega
   ·intro y hy;obtain rfl:w3.heap.size=y:=by simpa[Value.ownBlock] using hy
    have:=hi3.lt lb (.inl rfl);refine⟨?_,λe=>e⟩;rintro(e|e)<;>omega
  | false=>
   have hall:dH d i j s=(bu d i j ((s - 1) / 54) j 0 []).1:=by unfold dH;rw[hl];rfl
   simp only[RS];refine hkk _ _ ⟨_,rfl,hi3,h.aS hF3,?_,World.ownsRow_nil _ _ _ _,rfl,(λi cs r h1=>by simp at h1),hF3,?_,(λy hy=>hy.elim),(λy hy=>by cases hy),?_,hDl⟩
   ·rw[hall];exact aU hu z2
   ·rintro y (rfl|rfl)<;>omega
   ·intro y hy;have:=(aP hu y hy).1;refine⟨?_,λe=>e⟩;rintro(e|e)<;>omega
abbrev PgT:=Int×Int×Int×Int×Bs×List Bs×Unit
def ga(n:Nat)(a:Int):Nat:=((a.tmod n+n).tmod n).toNat
theorem yw(d:TypeDesc){a b:Int}(h0:0<b)(h1:b<=9223372036854775807):aC d .rem (iv a) (iv b)=some (iv (a.tmod b)):=by have h2:=Int.lt_tmod_of_pos a h0;have h3:=Int.tmod_lt_of_pos a h0;rw[nb,IT oM]
theorem gC{n:Nat}(h:1<=n)(a:Int):ga n a<n/\(a.tmod n+n).tmod n=(ga n a:Int)/\-(n:Int)<a.tmod n/\a.tmod n<n:=by unfold ga;have h0:(0:Int)<(n:Int):=oM;have h1:=Int.lt_tmod_of_pos a h0;have h2:=Int.tmod_lt_of_pos a h0;have h3:=Int.tmod_lt_of_pos (a.tmod n+n) h0;have h4:0<=(a.tmod n+n).tmod n:=Int.tmod_nonneg _ oM;omega
theorem Ii(d:TypeDesc){n:Nat}(h:1<=n)(hn:n<=4611686018427387904)(a:Int):aC d .rem (iv a) (iv (n:Int))=some (iv (a.tmod n))/\IntKind.i64.wrap (a.tmod n+n)=a.tmod n+n/\aC d .rem (iv (a.tmod n+n)) (iv (n:Int))=some (iv (ga n a:Int))/\ga n a<n:=by obtain⟨h1,h2,h3,h4⟩:=gC h a;refine⟨yw d oM oM,by rw[af];omega,?_,h1⟩;rw[yw d oM oM,h2]
theorem z28(w:World):(zeroValue 168).run prog w=.ok (.agg (rcs rc0 nl nl nl nl nl)) w:=kR
theorem LIn.get{w:World}{X P:Nat->Prop}{lb db mb:Nat}{kv:Value}{M:List (Int×Array Value)}{L:Lg}(h:LIn w X P lb db mb kv M L)(k:Int):
  (getD L.recs k=none/\getD M k=none)\/∃r cs,getD L.recs k=some r/\getD M k=some cs/\(k,r)∈L.recs/\Held w P cs r:=by
 have hn:(L.recs.map (·.1)).Nodup:=by rw[<- h.keys];exact h.mp.keys
 cases hM:getD M k with
 | none=>left;refine⟨?_,rfl⟩;rw[getD_none] at hM ⊢;rw[<- h.keys];exact hM
 | some cs=>right;obtain⟨r,h1,h2⟩:=h.rec_ k cs ((getD_some h.mp.keys).1 hM);exact⟨r,cs,(getD_some hn).2 h1,rfl,h1,h2⟩
theorem zk{w:World}{X:Nat->Prop}{lb db:Nat}{L:Lg}(h:LAt w X lb db L)(k:Int):Cl prog 119 [pv lb,iv k] w λv w'=>Fm (λ_=>False) w w' /\
  ((getD L.recs k=none/\v=.tuple #[.agg (rcs rc0 nl nl nl nl nl),iv 51])\/∃r cs,getD L.recs k=some r/\v=.tuple #[.agg cs,iv 0]/\RcAs w' cs r):=by
 obtain⟨P,mb,kv,M,hi⟩:=h.ex;refine c119 ?_;refine ae ?_;intro x1 w1 hx1 hs1 hw1 hf1;have hi1:=hi.aS hf1;simp only[RS,hi1.c8];refine ag (aX Ea hi1.mp k true (z28 _)) ?_;have one0:=kX (r:=rc0) (vs:=nl) (vm:=nl) (vi:=nl) (vp:=nl) (vt:=nl) rfl rfl rfl rfl rfl;rcases hi1.get k with⟨g1,g2⟩|⟨r,cs,g1,g2,g3,g4⟩
 ·rw[g2];simp only[okV,D8]
  try simp only[RS]
  refine ae ?_;intro x2 w2 hx2 hs2 hw2 hf2;refine ao hw2 rfl rfl one0 ?_;intro w3 hw3 hs3 hf3
  try simp only[RS]
  refine ag (Bp _) ?_;have hw3':=hf3.heap (hf2.heap hw1 id) (oM:¬x1=x2);refine ao hw3' rfl rfl one0 ?_;intro w4 hw4 hs4 hf4;exact yy hw4 rfl ⟨Fm.own (Fm.own (Fmf hf1 hf2) hf3 (by rintro y rfl;omega)) hf4 (by rintro y rfl;omega),.inl ⟨g1,rfl⟩⟩
 ·rw[g2];simp only[okV,D8];have hsz:=g4.now.size;have hone:=g4.now.one;obtain⟨q1,q2,_⟩:=h.wf.ok _ g3
  try simp only[RS]
  refine ae ?_;intro x2 w2 hx2 hs2 hw2 hf2;refine ao hw2 rfl hsz hone ?_;intro w3 hw3 hs3 hf3;have hxP:∀y,P y->¬y=x2:=by rintro y hy rfl;have:=hi1.lt _ (hi1.xs.2.2.2 _ hy);omega
  have g5:=(g4.keep hf2 iT).keep hf3 hxP;simp only[RS,aa hw3 hsz];refine(nF g5.now q2).mono ?_;rintro _ w4 ⟨cs',rfl,hheld,hf4⟩;have hw4:=hf4.heap (hf3.heap (hf2.heap hw1 id) (oM:¬x1=x2)) id;have hsz':=hheld.now.size;refine ao hw4 rfl hsz' hheld.now.one ?_;intro w5 hw5 hs5 hf5;have z2:=hf2.size;have z3:=hf3.size;refine yy hw5 hsz' ⟨Fm.own (Fmf (Fm.own (Fmf hf1 hf2) hf3 (by rintro y rfl;omega)) hf4) hf5 (by rintro y rfl;omega),.inr ⟨r,cs',g1,rfl,(hheld.keep hf5 (by rintro y hy rfl;omega)).now⟩⟩
theorem hU{γ:Type}{l:List γ}{i:Nat}{p:γ}(hi:l[i]?=some p):(l.eraseIdx i).length+1=l.length:=by have h:=(E2.1 hi).1;rw[List.length_eraseIdx,IY h];omega
theorem ey{γ:Type}{l:List γ}(h:l.Nodup)(i:Nat):(l.eraseIdx i).Nodup:=h.sublist (List.eraseIdx_sublist _ _)
structure Pf where
 pg : Pg
 num : Int
 chg : Bool
def pf0:Pf:=⟨pg0,-1,false⟩
structure Pl where
 frm : Nat
 pages : Nat
 fr : List Pf
 owed : List (Int × Int)
structure PS where
 p : Pl
 l : Lg
 d : Dk
namespace Pl
def hold(p:Pl)(n:Int):Option Nat:=p.fr.findIdx? (λf=>decide (f.num=n))
def get(p:Pl)(i:Nat):Pf:=p.fr.getD i pf0
def stays(p:Pl)(n:Int):Bool:=match p.hold n with
 | some i=>(p.get i).chg
 | none=>false
def synced(p:Pl):Pl:={ p with owed:=p.owed.filter (λx=>p.stays x.1) }
def known(p:Pl)(n:Int):Int:=bif decide (n<0)||decide ((p.pages:Int)<=n) then 4 else 0
def lay(p:Pl)(i:Nat)(f:Pf):Pl:={ p with fr:=p.fr.set i f }
end Pl
namespace PS
def putW(s:PS)(i:Nat):Dk×Int:=s.d.write ((s.p.frm:Int)+8*(s.p.get i).num) (pEnc (s.p.get i).pg).1
def put(s:PS)(i:Nat):PS×Int:=
 bif decide ((pEnc (s.p.get i).pg).2=0) then (bif decide ((s.putW i).2=0) then(⟨s.p.lay i { s.p.get i with chg:=false },s.l,(s.putW i).1⟩,0) else(⟨s.p,s.l,(s.putW i).1⟩,(s.putW i).2))
 else(s,(pEnc (s.p.get i).pg).2)
def flu(s:PS)(i:Nat):Lg×Dk×Int:=s.l.flush (s.p.get i).pg.lsn s.d
def write1(s:PS)(i:Nat):PS×Int:=
 bif decide ((s.l.last:Int)<=(s.p.get i).pg.lsn) then (bif decide ((s.flu i).2.2=0) then(PS.mk s.p.synced (s.flu i).1 (s.flu i).2.1).put i else(⟨s.p,(s.flu i).1,(s.flu i).2.1⟩,(s.flu i).2.2))
 else s.put i
def pickAt(n:Nat)(pick:Int):Nat:=ga n pick
def lay(s:PS)(i:Nat)(f:Pf):PS:=⟨s.p.lay i f,s.l,s.d⟩
def take(s:PS)(pick:Int):PS×Nat×Int:=match s.p.hold (-1) with
 | some i=>(s,i,0)
 | none=>
  bif (s.p.get (pickAt s.p.fr.length pick)).chg then
   (bif decide ((s.write1 (pickAt s.p.fr.length pick)).2=0) then((s.write1 (pickAt s.p.fr.length pick)).1.lay (pickAt s.p.fr.length pick) pf0,pickAt s.p.fr.length pick,0)
    else((s.write1 (pickAt s.p.fr.length pick)).1,0,(s.write1 (pickAt s.p.fr.length pick)).2))
  else(s.lay (pickAt s.p.fr.length pick) pf0,pickAt s.p.fr.length pick,0)
def raw(s:PS)(n:Int):Bs×Int:=s.d.read ((s.p.frm:Int)+8*n) 8
def fetch(s:PS)(n pick:Int):PS×Pg×Int:=
 bif decide (s.p.known n=0) then
  (match s.p.hold n with
  | some i=>(s,(s.p.get i).pg,0)
  | none=>
   bif decide ((s.raw n).2=0) then
    (bif decide ((dJ (s.raw n).1).2=0) then
     (bif decide ((s.take pick).2.2=0) then((s.take pick).1.lay (s.take pick).2.1 ⟨(dJ (s.raw n).1).1,n,false⟩,(dJ (s.raw n).1).1,0)
      else((s.take pick).1,pg0,(s.take pick).2.2))
     else(s,pg0,60))
   else(s,pg0,(s.raw n).2))
 else(s,pg0,s.p.known n)
def own(s:PS)(i:Nat)(n:Int)(b:Pg):PS:=⟨{ s.p.lay i ⟨b,n,true⟩ with owed:=bif (getD s.p.owed n).isNone then cM s.p.owed n b.lsn else s.p.owed },s.l,s.d⟩
def set(s:PS)(n:Int)(b:Pg)(pick:Int):PS×Int:=
 bif decide (s.p.known n=0) then
  (bif decide ((pEnc b).2=0) then
   (bif decide (b.lsn<1) then(s,1) else
    (match s.p.hold n with
    | some i=>(s.own i n b,0)
    | none=>bif decide ((s.take pick).2.2=0) then((s.take pick).1.own (s.take pick).2.1 n b,0) else((s.take pick).1,(s.take pick).2.2)))
   else(s,(pEnc b).2))
 else(s,s.p.known n)
def write(s:PS)(n:Int):PS×Int:=
 bif decide (s.p.known n=0) then
  (match s.p.hold n with
  | some i=>bif (s.p.get i).chg then s.write1 i else(s,0)
  | none=>(s,0))
 else(s,s.p.known n)
end PS
def IL(d:Dk)(a:Nat):Bs:=((d.cur.drop a).take 8).flatten
namespace Pl
theorem get_of{p:Pl}{i:Nat}{f:Pf}(h:p.fr[i]?=some f):p.get i=f:=by unfold get;rw[G6,h];rfl
theorem hold_some{p:Pl}{n:Int}{i:Nat}(h:p.hold n=some i):∃f,p.fr[i]?=some f/\f.num=n:=by unfold hold at h;rw[List.findIdx?_eq_some_iff_getElem] at h;obtain⟨hi,h1,_⟩:=h;exact⟨p.fr[i],C6 hi,by simpa using h1⟩
theorem lay_len(p:Pl)(i:Nat)(f:Pf):(p.lay i f).fr.length=p.fr.length:=by unfold lay;simp
end Pl
def page(s:PS)(n:Nat):Pg×Int:=dJ (IL s.d (s.p.frm+8*n))
section
variable{s:PS}{lst:Nat->Option Pg}
end
theorem iQ{α:Type}{f:α->List Value}{n:Nat}(hf:∀x,(f x).length=n):∀(F:List α) (i:Nat) (x:α),i<F.length->(F.set i x).flatMap f=(F.flatMap f).take (i*n)++(f x++(F.flatMap f).drop (i*n+n))
 | [],i,x,h=>by simp at h
 | y::F,0,x,h=>by rw[JR,G1,G1,JX,List.take_zero,H9,E7];congr 1;rw[Kw (hf y)]
 | y::F,i+1,x,h=>by rw[List.set_cons_succ,G1,G1,iQ hf F i x (by simpa using h)];rw[show(i+1)*n=(f y).length+i*n from by rw[hf,Nat.add_mul,Nat.one_mul,Nat.add_comm],List.take_length_add_append,Nat.add_assoc,List.drop_length_add_append,G7]
theorem uz:∀(l:List Value) (cs:Array Value) (o:Nat),o+l.length<=cs.size->ov cs o l=(cs.toList.take o++(l++cs.toList.drop (o+l.length))).toArray
 | [],cs,o,h=>by simp[ov]
 | v::l,cs,o,h=>by
  rw[G2] at h;rw[ov,uz l (cs.setIfInBounds o v) (o+1) (by rw[J1];omega)];have ho:o<cs.toList.length:=by rw[I8];omega
  rw[Jy,G2,List.set_eq_take_append_cons_drop,IY ho];have e1:cs.toList.take o++v::cs.toList.drop (o+1)=(cs.toList.take o++[v])++cs.toList.drop (o+1):=sI;have e2:(cs.toList.take o++[v]).length=o+1:=by rw[C5,E5,JL oM];rfl
  rw[e1,List.take_left' e2,<- List.drop_drop,Kw e2,List.drop_drop];simp[Nat.add_assoc,Nat.add_comm 1]
theorem gX{α:Type}{f:α->List Value}{n:Nat}(hf:∀x,(f x).length=n):∀{F:List α} {i:Nat} {x y:α} {j:Nat} {u:Value},F[i]?=some x->j<n->f y=(f x).set j u->(F.set i y).flatMap f=(F.flatMap f).set (i*n+j) u
 | [],i,x,y,j,u,h,_,_=>by simp at h
 | z::F,0,x,y,j,u,h,hj,he=>by
  obtain rfl:z=x:=by simpa using h
  rw[JR,G1,G1,JX,E7,he,List.set_append_left _ _ (by rw[hf];exact hj)]
 | z::F,i+1,x,y,j,u,h,hj,he=>by rw[List.set_cons_succ,G1,G1,gX hf (by simpa using h) hj he,JT _ _ (by rw[hf,Nat.add_mul];omega)];congr 2;rw[hf,Nat.add_mul];omega
abbrev PV:=Pf×Value
def frC(x:PV):List Value:=[iv x.1.pg.lsn,iv x.1.pg.kind,iv x.1.pg.level,iv x.1.pg.right,stv x.1.pg.high,x.2,iv x.1.num,.bool x.1.chg]
theorem cU(x:PV):(frC x).length=8:=rfl
def HeldP(w:World)(P:Nat->Prop)(v:Value)(p:Pg):Prop:=∀w',Fm (λy=>¬P y) w w'->PgAs w' (pcs p v) p
theorem HeldP.now{w:World}{P:Nat->Prop}{v:Value}{p:Pg}(h:HeldP w P v p):PgAs w (pcs p v) p:=h w (Fm.refl _ _)
theorem HeldP.keep{S P:Nat->Prop}{w w1:World}{v:Value}{p:Pg}(h:HeldP w P v p)(hf:Fm S w w1)(hs:∀y,P y->¬S y):HeldP w1 P v p:=λw' h'=>h w' (hf.trans h' (λx _ hx hp=>hs x hp hx) iT)
theorem HeldP.mono{P Q:Nat->Prop}{w:World}{v:Value}{p:Pg}(h:HeldP w P v p)(hPQ:∀y,P y->Q y):HeldP w Q v p:=λw' h'=>h w' (h'.mono (λx _ hx hp=>hx (hPQ x hp)))
theorem HeldP.aT{w:World}{b:Nat}{v:Value}{p:Pg}{P:Nat->Prop}(h:PgOw w b (pcs p v) p)(hP:∀y,v.ownBlock=some y->P y):HeldP w P v p:=by
 obtain⟨u,he,h2⟩:=h.ex;have e:(pcs p v).toList=(pcs p u).toList:=by rw[he]
 simp only[pcs,Ku,JF,and_true] at e;subst e;intro w' hf;have h3:=ah h2 hf (λk _ _ hk hn=>hn (hP k hk));exact⟨⟨v,rfl,az h3,CellsAt.aT h3⟩,h.small,h.ins⟩
theorem HeldP.zero(w:World)(P:Nat->Prop):HeldP w P (.slice none 0 0) pg0:=λw' _=>Ha w'
structure Pl.Wf (p : Pl) : Prop where
 f1 : 1 ≤ p.fr.length ∧ p.fr.length ≤ 1024
 pg : 1 ≤ p.pages ∧ p.frm + 8 * p.pages ≤ 65536
 nums : ∀ f ∈ p.fr, f.num = -1 ∨ (0 ≤ f.num ∧ f.num < (p.pages : Int))
theorem Pl.Wf.lay{p:Pl}(h:p.Wf){i:Nat}{f:Pf}(hf:f.num = -1\/(0<=f.num/\f.num<(p.pages:Int))):(p.lay i f).Wf:=by
 refine⟨by rw[Pl.lay_len];exact h.f1,h.pg,λg hg=>?_⟩;rcases JC hg with hg|rfl
 ·exact h.nums g hg
 ·exact hf
theorem Pl.Wf.v8{p q:Pl}(h:p.Wf)(e1:q.fr=p.fr)(e2:q.pages=p.pages)(e3:q.frm=p.frm):q.Wf:=⟨by rw[e1];exact h.f1,by rw[e2,e3];exact h.pg,by rw[e1,e2];exact h.nums⟩
theorem FL:KeyT prog 275 3 3 iv:=dG Tryz.underlying275 Tryz.underlying3
def plc(db lb fb ob n:Nat)(p:Pl):Array Value:=#[pv db,pv lb,iv (p.frm:Int),iv (p.pages:Int),.slice (some ⟨fb,0,none⟩) n n,.map (some ob)]
structure PIn (w : World) (X Q : Nat → Prop) (pb lb db fb ob : Nat) (F : List PV) (p : Pl) : Prop where
 st : w.heap[pb]? = some (.cells (plc db lb fb ob F.length p) 281)
 fr : w.heap[fb]? = some (.cells (F.flatMap frC).toArray 283)
 mp : MapAt w ob iv iv p.owed
 fs : F.map (·.1) = p.fr
 it : ∀ x ∈ F, HeldP w Q x.2 x.1.pg
 xs : X pb ∧ X fb ∧ X ob ∧ ∀ y, Q y → X y
 qs : ¬ Q pb ∧ ¬ Q fb ∧ ¬ Q ob
 lt : ∀ y, X y → y < w.heap.size
section
variable{w w':World}{X Q S:Nat->Prop}{pb lb db fb ob:Nat}{F:List PV}{p:Pl}
theorem PIn.keep(h:PIn w X Q pb lb db fb ob F p)(hf:Fm S w w')(hS:∀y,X y->¬S y):PIn w' X Q pb lb db fb ob F p:=⟨hf.heap h.st (hS _ h.xs.1),hf.heap h.fr (hS _ h.xs.2.1),h.mp.keep hf (hS _ h.xs.2.2.1),h.fs,λx hx=>(h.it x hx).keep hf (λy hy=>hS y (h.xs.2.2.2 y hy)),h.xs,h.qs,λy hy=>E3 (h.lt y hy) hf.size⟩
theorem PIn.aS(h:PIn w X Q pb lb db fb ob F p)(hf:Fm (λ_=>False) w w'):PIn w' X Q pb lb db fb ob F p:=h.keep hf iT
theorem PIn.len(h:PIn w X Q pb lb db fb ob F p):F.length=p.fr.length:=by rw[<- h.fs,H2]
theorem PIn.pf(h:PIn w X Q pb lb db fb ob F p):pb≠fb:=by rintro rfl;have:=h.st;rw[h.fr] at this;injection (I6 this) with _ e _;exact absurd e dC
theorem PIn.po(h:PIn w X Q pb lb db fb ob F p):pb≠ob:=by rintro rfl;obtain⟨es,c,hb,_⟩:=h.mp.ex;rw[h.st] at hb;cases hb
theorem PIn.fo(h:PIn w X Q pb lb db fb ob F p):fb≠ob:=by rintro rfl;obtain⟨es,c,hb,_⟩:=h.mp.ex;rw[h.fr] at hb;cases hb
theorem PIn.c0(h:PIn w X Q pb lb db fb ob F p):w.cell? ⟨pb,0,none⟩=some (pv db):=by rw[ab h.st];rfl
theorem PIn.c1(h:PIn w X Q pb lb db fb ob F p):w.cell? ⟨pb,1,none⟩=some (pv lb):=by rw[ab h.st];rfl
theorem PIn.c2(h:PIn w X Q pb lb db fb ob F p):w.cell? ⟨pb,2,none⟩=some (iv (p.frm:Int)):=by rw[ab h.st];rfl
theorem PIn.c3(h:PIn w X Q pb lb db fb ob F p):w.cell? ⟨pb,3,none⟩=some (iv (p.pages:Int)):=by rw[ab h.st];rfl
theorem PIn.c4(h:PIn w X Q pb lb db fb ob F p):w.cell? ⟨pb,4,none⟩=some (.slice (some ⟨fb,0,none⟩) F.length F.length):=by rw[ab h.st];rfl
theorem PIn.c5(h:PIn w X Q pb lb db fb ob F p):w.cell? ⟨pb,5,none⟩=some (.map (some ob)):=by rw[ab h.st];rfl
theorem PIn.fc(h:PIn w X Q pb lb db fb ob F p){i:Nat}{x:PV}(hi:F[i]?=some x){j:Nat}(hj:j<8):w.cell? ⟨fb,i*8+j,none⟩=(frC x)[j]? := by rw[ab h.fr,I5,dD cU hi hj]
theorem PIn.f0(h:PIn w X Q pb lb db fb ob F p){i:Nat}{x:PV}(hi:F[i]?=some x):w.cell? ⟨fb,i*8,none⟩=some (iv x.1.pg.lsn):=h.fc hi (j:=0) oM
theorem PIn.f6(h:PIn w X Q pb lb db fb ob F p){i:Nat}{x:PV}(hi:F[i]?=some x):w.cell? ⟨fb,i*8+6,none⟩=some (iv x.1.num):=h.fc hi oM
theorem PIn.f7(h:PIn w X Q pb lb db fb ob F p){i:Nat}{x:PV}(hi:F[i]?=some x):w.cell? ⟨fb,i*8+7,none⟩=some (.bool x.1.chg):=h.fc hi oM
theorem PIn.By(h:PIn w X Q pb lb db fb ob F p){i:Nat}{x:PV}(hi:F[i]?=some x):aI w ⟨fb,i*8,none⟩ 6=some (.agg (pcs x.1.pg x.2)):=by refine aN (l:=(frC x).take 6) rfl (λj hj=>?_);rw[aA,h.fc hi oM,Jz,IY hj]
theorem PIn.ix(i:Nat){n:Nat}(hi:i<n)(fb:Nat):ixV 8 (.slice (some ⟨fb,0,none⟩) n n) (iv (i:Int))=some (.pointer (some ⟨fb,i*8,none⟩)):=by rw[dT hi,aA,E7]
theorem PIn.rW(h:PIn w X Q pb lb db fb ob F p){i:Nat}{x:PV}(hi:F[i]?=some x):p.fr[i]?=some x.1/\p.get i=x.1:=by
 have:p.fr[i]?=some x.1:=by rw[<- h.fs,E4,hi];rfl
 exact⟨this,Pl.get_of this⟩
theorem PIn.put(h:PIn w X Q pb lb db fb ob F p){Q':Nat->Prop}{i:Nat}{x:PV}(hf:Fm S w w')(hS:∀y,S y->y=fb\/¬X y)(hfr:w'.heap[fb]?=some (.cells ((F.set i x).flatMap frC).toArray 283))(hx:HeldP w' Q' x.2 x.1.pg)
  (hQ:∀y,Q y->Q' y) (hQ':∀y,Q' y->Q y\/(¬X y/\y<w'.heap.size)):PIn w' (λy=>X y\/Q' y) Q' pb lb db fb ob (F.set i x) (p.lay i x.1):=by
 have hno:∀y,X y->y≠fb->¬S y:=λy hy hn hs=>by
  rcases hS y hs with e|e
  ·exact hn e
  ·exact e hy
 have hq:∀y,X y->¬Q y->¬Q' y:=λy hy hn e=>by
  rcases hQ' _ e with e|e
  ·exact hn e
  ·exact e.1 hy
 refine⟨?_,hfr,h.mp.keep hf (hno _ h.xs.2.2.1 h.fo.symm),?_,?_,⟨.inl h.xs.1,.inl h.xs.2.1,.inl h.xs.2.2.1,λy hy=>.inr hy⟩,⟨hq _ h.xs.1 h.qs.1,hq _ h.xs.2.1 h.qs.2.1,hq _ h.xs.2.2.1 h.qs.2.2⟩,?_⟩
 ·rw[I3];exact hf.heap h.st (hno _ h.xs.1 h.pf)
 ·show(F.set i x).map (·.1)=p.fr.set i x.1;rw[<- h.fs,Kz]
 ·intro y hy;rcases JC hy with hy|rfl
  ·exact((h.it y hy).keep hf (λz hz=>hno z (h.xs.2.2.2 z hz) (by rintro rfl;exact h.qs.2.1 hz))).mono hQ
  ·exact hx
 ·intro y hy;have hz:=hf.size;rcases hy with hy|hy
  ·have:=h.lt y hy;omega
  ·rcases hQ' y hy with e|e
   ·have:=h.lt y (h.xs.2.2.2 y e);omega
   ·exact e.2
theorem gD(h:PIn w X Q pb lb db fb ob F p)(n:Int):Cl prog 237 [pv pb,iv n] w λv w'=>v=iv (p.known n)/\w'=w:=by
 refine c237 ?_;unfold Pl.known;cases h1:decide (n<0) with
 | true=>simp only[RS,h1,Jv,D8];exact⟨tV,tV⟩
 | false=>
  simp only[RS,h1,h.c3,Jf];cases h2:decide ((p.pages:Int)<=n) with
  | true=>simp only[RS,D8];exact⟨tV,tV⟩
  | false=>simp only[RS,C8];exact⟨tV,tV⟩
def kz(fb:Nat):Option Nat->Value
 | some i=>.pointer (some ⟨fb,i*8,none⟩)
 | none=>.pointer none
theorem dv(h:PIn w X Q pb lb db fb ob F p)(hw:F.length<=1024)(n:Int):Cl prog 238 [pv pb,iv n] w λv w'=>v=kz fb (p.hold n)/\w'=w:=by
 have hlen:=h.len;refine c238 ?_;simp only[RS,h.c4];refine⟨λvs w'=>∃i:Nat,vs=[iv (i:Int)]/\i<=F.length/\(∀(j:Nat) (f:Pf),j<i->p.fr[j]?=some f->f.num≠n)/\w'=w,λvs _=>(F.length - nth vs 0).toNat,⟨0,rfl,oM,(λj f hj=>oM),rfl⟩,?_⟩;rintro _ w2 ivv ⟨i,hvs,hi,hno,rfl⟩;cases hvs;by_cases hl:i<F.length
 ·have d1:decide ((i:Int)<(F.length:Int))=true:=by rw[C4];omega
  have e1:IntKind.i64.wrap ((i:Int)+1)=((i+1:Nat):Int):=by rw[af]<;>omega
  have hx:F[i]?=some F[i]:=C6 hl;generalize F[i]=x at hx;obtain⟨g1,_⟩:=h.rW hx;simp only[RS,d1,h.c4,PIn.ix i hl fb,h.f6 hx,aV];cases hq:decide (x.1.num=n) with
  | true=>
   rw[C4] at hq;simp only[RS];refine⟨?_,tV⟩;have:p.hold n=some i:=by
    unfold Pl.hold;rw[List.findIdx?_eq_some_iff_getElem];have hli:i<p.fr.length:=oM;refine⟨hli,?_,λj hj=>?_⟩
    ·rw[C6 hli] at g1;rw[C4,I6 g1];exact hq
    ·have:=hno j _ hj (C6 oM);simpa using this
   rw[this];rfl
  | false=>
   rw[C7] at hq;simp only[RS,e1];refine⟨⟨i+1,rfl,oM,λj f hj hf=>?_,tV⟩,by simp only[ba];omega⟩;by_cases hji:j=i
   ·subst hji;rw[g1] at hf;cases hf;exact hq
   ·exact hno j f oM hf
 ·have d1:decide ((i:Int)<(F.length:Int))=false:=by rw[C7];omega
  simp only[RS,d1];refine⟨?_,tV⟩;have:p.hold n=none:=by unfold Pl.hold;rw[List.findIdx?_eq_none_iff];intro f hf;obtain⟨j,hj⟩:=List.getElem?_of_mem hf;have hjl:=(E2.1 hj).1;simpa using hno j f oM hj
  rw[this];rfl
theorem mz(h:PIn w X Q pb lb db fb ob F p)(n:Int):Cl prog 298 [pv pb,iv n] w λv w'=>v=.bool (!(getD p.owed n).isNone)/\w'=w:=by
 refine c298 ?_;simp only[RS,h.c5];have hl:=aX FL h.mp n true (z:=iv 0) kR;refine ag hl ?_;cases getD p.owed n with
 | none=>simp only[okV,D8];simp only[RS];exact⟨tV,tV⟩
 | some v=>simp only[okV,D8];simp only[RS];exact⟨tV,tV⟩
theorem bA{p:Pg}{v:Value}(h:v.oneCell'=true):∀u∈(pcs p v).toList,u.oneCell'=true:=by intro u hu;simp[pcs] at hu;rcases hu with rfl|rfl|rfl|rfl|rfl|rfl<;>first|rfl|assumption
theorem AG(p:Pg)(v u:Value):(pcs p v).setIfInBounds 5 u=pcs p u:=rfl
theorem HeldP.v1{P:Nat->Prop}{v:Value}{q:Pg}(h:HeldP w P v q):v.oneCell'=true/\CellsAt w v q.items.length 1 (q.items.map stv)/\q.items.length*16<=140737488355328:=by
 obtain⟨u,he,h1,h2⟩:=h.now.ex;have e:(pcs q v).toList=(pcs q u).toList:=by rw[he]
 simp only[pcs,Ku,JF,and_true] at e;subst e;exact⟨h1,h2,h.now.ins.2.2.2.2.2⟩
theorem rk(h:PIn w X Q pb lb db fb ob F p){i:Nat}{x:PV}(hi:F[i]?=some x):Cl prog 281 [.pointer (some ⟨fb,i*8,none⟩)] w λv w'=>∃cs,v=.agg cs/\PgOw w' w.heap.size cs x.1.pg/\Fm (λ_=>False) w w':=by
 have hit:=h.it x (F7 hi);obtain⟨v1,v2,v3⟩:=hit.v1;refine c281 ?_;show New (pcs pg0 (.slice none 0 0)) 68 w _;refine ae ?_;intro x1 w1 hx1 hs1 hw1 hf1;simp only[RS,(h.aS hf1).By hi];refine ae ?_;intro x2 w2 hx2 hs2 hw2 hf2;refine ao hw2 rfl rfl (bA v1) ?_;intro w3 hw3 hs3 hf3;have c5:w3.cell? ⟨x2,5,none⟩=some x.2:=by rw[ab hw3];rfl
 have hF3:Fm (λ_=>False) w w3:=Fm.own (Fmf hf1 hf2) hf3 (by rintro y rfl;omega);simp only[RS,c5];refine(dh (v2.keep hF3 iT) v3).mono ?_;rintro r w4 ⟨ho4,hf4⟩
 try simp only[RS]
 have z3:=hF3.size;refine au (hf4.heap hw3 id) (by show 5<6;decide) (az ho4) ?_;intro w5 hw5 hs5 hf5;rw[AG] at hw5;have hlt:=aP ho4;simp only[RS,aa hw5 (show(pcs x.1.pg r).size=6 from rfl)];have hF4:=Fmf hF3 hf4;have hF5:Fm (λ_=>False) w w5:=Fm.own hF4 hf5 (by rintro y rfl;omega);have hw1':w5.heap[x1]?=some (.cells (pcs pg0 (.slice none 0 0)) 68):=by have e3:w3.heap[x1]?=_:=hf3.heap (hf2.heap hw1 id) (oM:¬x1=x2);exact hf5.heap (hf4.heap e3 id) (oM:¬x1=x2)
 refine ao hw1' rfl rfl (bA (az ho4)) ?_;intro w6 hw6 hs6 hf6;have z1:=hf1.size;have z2:=hf2.size;have z3':=hf3.size;refine yy hw6 rfl ⟨_,rfl,⟨⟨r,rfl,aU (ah (ah ho4 hf5 (λk hk _ _ e=>oM)) hf6 (λk hk _ _ e=>oM)) z3⟩,hit.now.small,hit.now.ins⟩,Fm.own hF5 hf6 (by rintro y rfl;omega)⟩
end
theorem qG{β:Type}(M:List (Int×β))(hn:(M.map (·.1)).Nodup)(q:Int×β->Bool)(a:Int):cO (M.filter q) a=M.filter (λx=>q x&&!decide (x.1=a)):=by
 induction M with
 | nil=>rfl
 | cons p l ih=>
  rw[Ji,JV] at hn;have ih:=ih hn.2;rw[J4,J4];by_cases hq:q p=true
  ·rw[IY hq,cO];by_cases ha:p.1=a
   ·have hno:∀x∈l,¬x.1=a:=λx hx e=>hn.1 (by rw[ha,<- e];exact E8.2 ⟨x,hx,rfl⟩);rw[IY ha,IT (by simp[ha])];exact(List.filter_congr (λx hx=>by simp[hno x hx])).symm
   ·rw[IT ha,IY (by simp[hq,ha]),ih]
  ·rw[IT hq,IT (by simp[hq]),ih]
section
variable{w w':World}{X Q S:Nat->Prop}{pb lb db fb ob:Nat}{F:List PV}{p:Pl}
theorem nH{a:Nat}(h:PIn w X Q pb lb db fb ob F p)(hw:F.length<=1024)(ha:w.heap[a]?=some (.cells #[pv pb] 65))(n:Int)(u:Value):Cl prog 341 [iv n,u,pv a] w λv w'=>v=.bool (!p.stays n)/\w'=w:=by
 have ca:w.cell? ⟨a,0,none⟩=some (pv pb):=by rw[ab ha];rfl
 refine c341 ?_;simp only[RS,ca];refine(dv h hw n).mono ?_;rintro _ w2 ⟨rfl,rfl⟩;unfold Pl.stays;cases hh:p.hold n with
 | none=>simp only[kz];simp only[RS];exact⟨tV,tV⟩
 | some i=>simp only[kz];obtain⟨f,hf,_⟩:=Pl.hold_some hh;rw[<- h.fs,E4,E6] at hf;obtain⟨x,hx,rfl⟩:=hf;rw[(h.rW hx).2];simp only[RS,h.f7 hx];exact⟨tV,tV⟩
theorem pG(h:PIn w X Q pb lb db fb ob F p)(hw:F.length<=1024):Cl prog 276 [pv pb] w λv w'=>PIn w' X Q pb lb db fb ob F p.synced/\Fm (·=ob) w w':=by
 refine c276 ?_;refine ae ?_;intro a w1 ha hs1 hw1 hf1;have c1:w1.cell? ⟨a,0,none⟩=some (pv pb):=by rw[ab hw1];rfl
 have hi1:=h.aS hf1;simp only[RS,c1,hi1.c5];refine c340 ?_;obtain⟨w5,hr5,hR,hf5,hs5⟩:=fq Tryz.underlying275 hi1.mp;refine ag hr5 ?_;have hi5:=hi1.aS hf5;have hkn:(p.owed.map (·.1)).Nodup:=h.mp.keys;have hz1:=hf1.size;refine⟨λvs w'=>∃(q:Int×Int->Bool) (left:List (Int×Int)),vs=[]/\RangeAt w' w1.heap.size ob iv iv (p.owed.filter q) left/\(left.map (·.1)).Nodup/\(∀x∈p.owed,q x=true↔(p.stays x.1=true\/x.1∈left.map (·.1)))/\Fm (λy=>y=ob\/y=w1.heap.size) w5 w',λ_ w'=>Go.Al.rl w' w1.heap.size ob,⟨λ_=>true,p.owed,rfl,by rw[List.filter_eq_self.2 (λ_ _=>rfl)];exact hR,hkn,λx hx=>⟨λ_=>.inr (E8.2 ⟨x,hx,rfl⟩),λ_=>rfl⟩,Fm.refl _ _⟩,?_⟩;rintro g w6 ⟨q,left,-,hR6,hln,hq,hf6⟩;have hnm5:∀y,X y->¬y=w1.heap.size:=by rintro y hy rfl;have:=hi1.lt _ hy;omega
 have hat:∀{w7:World} {D:List (Int×Int)},Fm (λy=>y=ob\/y=w1.heap.size) w5 w7->MapAt w7 ob iv iv D->PIn w7 X Q pb lb db fb ob F { p with owed:=D }:=by
  intro w7 D hf7 hm7;have hn:∀y,X y->y≠ob->¬(y=ob\/y=w1.heap.size):=λy hy hne e=>by
   rcases e with e|e
   ·exact hne e
   ·exact hnm5 y hy e
  exact⟨hf7.heap hi5.st (hn _ h.xs.1 h.po),hf7.heap hi5.fr (hn _ h.xs.2.1 h.fo),hm7,h.fs,λx hx=>(hi5.it x hx).keep hf7 (λy hy=>hn y (h.xs.2.2.2 y hy) (by rintro rfl;exact h.qs.2.2 hy)),h.xs,h.qs,λy hy=>E3 (hi5.lt y hy) hf7.size⟩
 have ha7:∀{w7:World},Fm (λy=>y=ob\/y=w1.heap.size) w5 w7->w7.heap[a]?=some (.cells #[pv pb] 65):=λhf7=>hf7.heap (hf5.heap hw1 id) (by
  rintro(e|e)
  ·have:=h.lt _ h.xs.2.2.1;omega
  ·omega)
 have hfn:((p.owed.filter q).map (·.1)).Nodup:=hkn.sublist (List.Sublist.map _ List.filter_sublist);rcases ie (P:=prog) hR6 0 with⟨rfl,hrun⟩|⟨i,y,w7,hp,hrun,hR',hf',hs',hent⟩
 ·refine ag hrun ?_;simp only[RS];have hFq:p.owed.filter q=p.owed.filter (λx=>p.stays x.1):=List.filter_congr (λx hx=>by have:=hq x hx;simp at this;cases h1:q x<;>cases h2:p.stays x.1<;>simp[h1,h2] at this ⊢);have hm6:=hR6.map hfn;rw[hFq] at hm6;refine⟨hat hf6 hm6,?_⟩;exact(Fmf hf1 hf5).trans hf6 iE (λx hx e=>by
   rcases e with e|e
   ·exact e
   ·omega)
 ·refine ag hrun ?_;simp only[RS];refine ag hent ?_;have hlen:Go.Al.rl w7 w1.heap.size ob<Go.Al.rl w6 w1.heap.size ob:=by rw[hR6.len,hR'.len];have:=hU hp;omega
  have hln':((left.eraseIdx i).map (·.1)).Nodup:=by rw[<- bd];exact ey hln i
  have hf7:Fm (λy=>y=ob\/y=w1.heap.size) w5 w7:=hf6.trans (hf'.mono (λy _ e=>.inr e)) iT iT;have hmem:∀k,k∈left.map (·.1)↔k=y.1\/k∈(left.eraseIdx i).map (·.1):=by
   intro k;constructor
   ·intro hk;obtain⟨x,hx,rfl⟩:=E8.1 hk;rcases pn hp hx with rfl|hx
    ·exact .inl rfl
    ·exact .inr (E8.2 ⟨x,hx,rfl⟩)
   ·rintro(rfl|hk)
    ·exact E8.2 ⟨y,F7 hp,rfl⟩
    ·obtain⟨x,hx,rfl⟩:=E8.1 hk;exact E8.2 ⟨x,Kf hx,rfl⟩
  have hnot:y.1∉(left.eraseIdx i).map (·.1):=by
   intro hk;obtain⟨j,hj⟩:=List.getElem?_of_mem hk;rw[<- bd,List.getElem?_eraseIdx] at hj;have hpi:(left.map (·.1))[i]?=some y.1:=by rw[E4,hp];rfl
   split at hj
   ·have:=(List.getElem?_inj (E2.1 hj).1 hln).1 (hj.trans hpi.symm);omega
   ·have:=(List.getElem?_inj (E2.1 hj).1 hln).1 (hj.trans hpi.symm);omega
  simp only[RS];refine ax kR ?_;have hi7:=hat hf7 (hR'.map hfn);refine(nH hi7 hw (ha7 hf7) y.1 (iv y.2)).mono ?_;rintro _ w8 ⟨rfl,rfl⟩;have hst:({ p with owed:=p.owed.filter q }:Pl).stays y.1=p.stays y.1:=rfl;rw[hst];cases q3:p.stays y.1 with
  | true=>
   simp only[RS];refine⟨⟨q,_,tV,hR',hln',λx hx=>?_,hf7⟩,hlen⟩;rw[hq x hx,hmem];constructor
   ·rintro(h1|h1|h1)
    ·exact .inl h1
    ·exact .inl (by rw[h1];exact q3)
    ·exact .inr h1
   ·rintro(h1|h1)
    ·exact .inl h1
    ·exact .inr (.inr h1)
  | false=>
   simp only[RS];obtain⟨w9,hr9,hR9,hf9,hs9⟩:=jo FL hR' hfn y.1 hnot 0 3;refine ag hr9 ?_;rw[qG p.owed hkn q y.1] at hR9;refine⟨⟨_,_,tV,hR9,hln',λx hx=>?_,hf7.trans (hf9.mono (λy _ e=>.inl e)) iT iT⟩,by rw[hR9.len,<- hR'.len];exact hlen⟩;rw[E0,hq x hx,hmem,JQ,C7];constructor
   ·rintro⟨h1,h2⟩;rcases h1 with h1|h1|h1
    ·exact .inl h1
    ·exact absurd h1 h2
    ·exact .inr h1
   ·rintro(h1|h1)
    ·exact⟨.inl h1,λe=>by rw[e,q3] at h1;cases h1⟩
    ·exact⟨.inr (.inr h1),λe=>hnot (by rw[<- e];exact h1)⟩
end
structure SI (w : World) (Xl Xp Q : Nat → Prop) (pb lb db g m fb ob : Nat) (F : List PV) (s : PS) : Prop where
 hL : LAt w Xl lb db s.l
 hD : DAt w db g m s.d
 hP : PIn w Xp Q pb lb db fb ob F s.p
 wf : s.p.Wf
 lp : ∀ y, Xl y → ¬ Xp y
 ld : ¬ Xl db ∧ ¬ Xl g ∧ ¬ Xl m
 pd : ¬ Xp db ∧ ¬ Xp g ∧ ¬ Xp m
def SY(Xl Xp:Nat->Prop)(db g m:Nat)(y:Nat):Prop:=Xl y\/Xp y\/y=db\/y=g\/y=m
section
variable{w w':World}{Xl Xp Q S:Nat->Prop}{pb lb db g m fb ob:Nat}{F:List PV}{s:PS}
theorem SI.o8(h:SI w Xl Xp Q pb lb db g m fb ob F s):1<=F.length/\F.length<=1024:=by rw[h.hP.len];exact h.wf.f1
theorem SI.keep(h:SI w Xl Xp Q pb lb db g m fb ob F s)(hf:Fm S w w')(hS:∀y,SY Xl Xp db g m y->¬S y):SI w' Xl Xp Q pb lb db g m fb ob F s:=⟨h.hL.keep hf (λy hy=>hS y (.inl hy)),h.hD.keep hf (hS _ (.inr (.inr (.inl rfl)))) (hS _ (.inr (.inr (.inr (.inl rfl))))) (hS _ (.inr (.inr (.inr (.inr rfl))))),h.hP.keep hf (λy hy=>hS y (.inr (.inl hy))),h.wf,h.lp,h.ld,h.pd⟩
theorem SI.aS(h:SI w Xl Xp Q pb lb db g m fb ob F s)(hf:Fm (λ_=>False) w w'):SI w' Xl Xp Q pb lb db g m fb ob F s:=h.keep hf iT
theorem SI.lt(h:SI w Xl Xp Q pb lb db g m fb ob F s):∀y,SY Xl Xp db g m y->y<w.heap.size:=by
 have hd:=h.hD.lt;rintro y (hy|hy|rfl|rfl|rfl)
 ·exact h.hL.lt y hy
 ·exact h.hP.lt y hy
 ·exact hd.1
 ·exact hd.2.1
 ·exact hd.2.2
theorem SI.A6(h:SI w Xl Xp Q pb lb db g m fb ob F s){i:Nat}{x:PV}(hi:F[i]?=some x){b:Bool}{k:KV}(hk:∀w',SI w' Xl Xp Q pb lb db g m fb ob (F.set i ({ x.1 with chg:=b },x.2)) ⟨s.p.lay i { x.1 with chg:=b },s.l,s.d⟩->Fm (·=fb) w w'->k undef w'):
  St 1 w (.pointer (some ⟨fb,i*8+7,none⟩)) (.bool b) k:=by
 have hil:=(E2.1 hi).1;have hmem:=F7 hi;refine au h.hP.fr (by rw[I7,flat_len cU];omega) rfl ?_;intro w' hw' hs' hf';have hset:=gX cU (F:=F) (y:=(({ x.1 with chg:=b },x.2):PV)) (u:=.bool b) hi (j:=7) oM rfl;rw[JS,<- hset] at hw';have hx0:=h.hP.it x hmem;have hfb:∀y,Q y->¬y=fb:=by rintro y hy rfl;exact h.hP.qs.2.1 hy
 have hput:=h.hP.put (x:=(({ x.1 with chg:=b },x.2):PV)) hf' (λy e=>.inl e) hw' (hx0.keep hf' hfb) (λ_ e=>e) (λy hy=>.inl hy);have hX:(λy=>Xp y\/Q y)=Xp:=by funext y;exact propext ⟨λe=>e.elim id (h.hP.xs.2.2.2 y),.inl⟩
 rw[hX] at hput;refine hk w' ⟨h.hL.keep hf' (by rintro y hy rfl;exact h.lp _ hy h.hP.xs.2.1),h.hD.keep hf' (by rintro rfl;exact h.pd.1 h.hP.xs.2.1) (by rintro rfl;exact h.pd.2.1 h.hP.xs.2.1) (by rintro rfl;exact h.pd.2.2 h.hP.xs.2.1),hput,h.wf.lay ?_,h.lp,h.ld,h.pd⟩ hf';have:=(h.hP.rW hi).1;exact h.wf.nums x.1 (F7 this)
theorem SI.flush(h:SI w Xl Xp Q pb lb db g m fb ob F s)(u:Int):Cl prog 186 [pv lb,iv u] w λv w'=>v=iv (s.l.flush u s.d).2.2/\SI w' Xl Xp Q pb lb db g m fb ob F ⟨s.p,(s.l.flush u s.d).1,(s.l.flush u s.d).2.1⟩/\Fm (SY Xl Xp db g m) w w':=by
 refine(rP h.hL h.hD h.ld u).mono ?_;rintro v w' ⟨rfl,h1,h2,hf⟩;have hlb:=h.hL.lb;refine⟨rfl,⟨h1,h2,h.hP.keep hf ?_,h.wf,h.lp,h.ld,h.pd⟩,hf.mono ?_⟩
 ·rintro y hy (rfl|rfl|rfl|rfl)
  ·exact h.lp _ hlb hy
  ·exact h.pd.1 hy
  ·exact h.pd.2.1 hy
  ·exact h.pd.2.2 hy
 ·rintro y _ (rfl|rfl|rfl|rfl)
  ·exact .inl hlb
  ·exact .inr (.inr (.inl rfl))
  ·exact .inr (.inr (.inr (.inl rfl)))
  ·exact .inr (.inr (.inr (.inr rfl)))
theorem SI.synced(h:SI w Xl Xp Q pb lb db g m fb ob F s):Cl prog 276 [pv pb] w λv w'=>SI w' Xl Xp Q pb lb db g m fb ob F ⟨s.p.synced,s.l,s.d⟩/\Fm (SY Xl Xp db g m) w w':=by refine(pG h.hP h.o8.2).mono ?_;rintro v w' ⟨h1,hf⟩;have ho:=h.hP.xs.2.2.1;exact⟨⟨h.hL.keep hf (by rintro y hy rfl;exact h.lp _ hy ho),h.hD.keep hf (by rintro rfl;exact h.pd.1 ho) (by rintro rfl;exact h.pd.2.1 ho) (by rintro rfl;exact h.pd.2.2 ho),h1,h.wf.v8 rfl rfl rfl,h.lp,h.ld,h.pd⟩,hf.mono (by rintro y _ rfl;exact .inr (.inl ho))⟩
theorem SI.o7(h:SI w Xl Xp Q pb lb db g m fb ob F s){d':Dk}(hd:DAt w' db g m d')(hf:Fm (λx=>x=db\/x=g\/x=m) w w'):SI w' Xl Xp Q pb lb db g m fb ob F ⟨s.p,s.l,d'⟩/\Fm (SY Xl Xp db g m) w w':=by
 refine⟨⟨h.hL.keep hf ?_,hd,h.hP.keep hf ?_,h.wf,h.lp,h.ld,h.pd⟩,hf.mono (λy _ e=>.inr (.inr e))⟩
 ·rintro y hy (rfl|rfl|rfl)
  ·exact h.ld.1 hy
  ·exact h.ld.2.1 hy
  ·exact h.ld.2.2 hy
 ·rintro y hy (rfl|rfl|rfl)
  ·exact h.pd.1 hy
  ·exact h.pd.2.1 hy
  ·exact h.pd.2.2 hy
theorem bX{a b c:World}(h:Fm (SY Xl Xp db g m) a b)(k:Fm (SY Xl Xp db g m) b c):Fm (SY Xl Xp db g m) a c:=h.trans k iT iT
theorem eS{a b:World}(h:Fm (λ_=>False) a b):Fm (SY Xl Xp db g m) a b:=h.mono iE
theorem xb(p:Pg):tW p=.tuple #[stv (pEnc p).1,iv (pEnc p).2]:=rfl
theorem jm(h:SI w Xl Xp Q pb lb db g m fb ob F s){i:Nat}{x:PV}(hi:F[i]?=some x):Cl prog 239 [pv pb,.pointer (some ⟨fb,i*8,none⟩)] w λv w'=>v=iv (s.write1 i).2/\(∃F',SI w' Xl Xp Q pb lb db g m fb ob F' (s.write1 i).1)/\Fm (SY Xl Xp db g m) w w':=by
 obtain⟨_,hget⟩:=h.hP.rW hi;have hmem:=F7 hi;have hE:s.write1 i=bif decide ((s.l.last:Int)<=x.1.pg.lsn) then(bif decide ((s.l.flush x.1.pg.lsn s.d).2.2=0) then(PS.mk s.p.synced (s.l.flush x.1.pg.lsn s.d).1 (s.l.flush x.1.pg.lsn s.d).2.1).put i else(⟨s.p,(s.l.flush x.1.pg.lsn s.d).1,(s.l.flush x.1.pg.lsn s.d).2.1⟩,(s.l.flush x.1.pg.lsn s.d).2.2)) else s.put i:=by unfold PS.write1 PS.flu;rw[hget]
 refine c239 ?_;refine aJ (λvs w'=>vs=[]/\∃s1,SI w' Xl Xp Q pb lb db g m fb ob F s1/\s1.p.fr=s.p.fr/\Fm (SY Xl Xp db g m) w w'/\s.write1 i=s1.put i) ?_ ?_
 ·rintro _ w2 ⟨rfl,s1,h1,hfr,hF2,he⟩ _;refine⟨rfl,?_⟩;rw[he];clear hE he;have hg1:s1.p.get i=x.1:=(h1.hP.rW hi).2;have hput:s1.put i=bif decide ((pEnc x.1.pg).2=0) then(bif decide ((s1.d.write ((s1.p.frm:Int)+8*x.1.num) (pEnc x.1.pg).1).2=0) then(⟨s1.p.lay i { x.1 with chg:=false },s1.l,(s1.d.write ((s1.p.frm:Int)+8*x.1.num) (pEnc x.1.pg).1).1⟩,0) else(⟨s1.p,s1.l,(s1.d.write ((s1.p.frm:Int)+8*x.1.num) (pEnc x.1.pg).1).1⟩,(s1.d.write ((s1.p.frm:Int)+8*x.1.num) (pEnc x.1.pg).1).2)) else(s1,(pEnc x.1.pg).2):=by unfold PS.put PS.putW;rw[hg1]
  simp only[RS,h1.hP.By hi];refine(cH (h1.hP.it x hmem).now).mono ?_;rintro _ w3 ⟨rfl,hf3⟩;rw[xb];have h3:=h1.aS hf3;have hF3:=bX hF2 (eS hf3);simp only[RS];refine aJ (λvs w'=>∃(e:Int) (d':Dk),vs=[iv e]/\SI w' Xl Xp Q pb lb db g m fb ob F ⟨s1.p,s1.l,d'⟩/\Fm (SY Xl Xp db g m) w w'/\s1.put i=bif decide (e=0) then(⟨s1.p.lay i { x.1 with chg:=false },s1.l,d'⟩,0) else(⟨s1.p,s1.l,d'⟩,e)) ?_ ?_
  ·rintro _ w4 ⟨e,d',rfl,h4,hF4,he⟩ _;refine⟨_,rfl,?_⟩;rw[he];refine aJ (λvs w'=>vs=[]/\∃F',SI w' Xl Xp Q pb lb db g m fb ob F' (bif decide (e=0) then(PS.mk (s1.p.lay i { x.1 with chg:=false }) s1.l d') else⟨s1.p,s1.l,d'⟩)/\Fm (SY Xl Xp db g m) w w') ?_ ?_
   ·rintro _ w5 ⟨rfl,F',h5,hF5⟩ _;refine⟨rfl,?_⟩;cases hq:decide (e=0) with
    | true=>rw[hq] at h5;rw[C4] at hq;exact⟨by rw[hq];rfl,⟨F',h5⟩,hF5⟩
    | false=>rw[hq] at h5;exact⟨rfl,⟨F',h5⟩,hF5⟩
   intro jj hjj;simp only[RS,aV];cases hq:decide (e=0) with
   | true=>simp only[RS];refine h4.A6 hi ?_;intro w5 h5 hf5;exact hjj _ _ ⟨rfl,_,by rw[hq];exact h5,hF4.trans hf5 iT (by rintro y _ rfl;exact .inr (.inl h4.hP.xs.2.1))⟩
   | false=>simp only[RS];exact hjj _ _ ⟨rfl,F,by rw[hq];exact h4,hF4⟩
  intro jj hjj;simp only[RS,aV];cases hq:decide ((pEnc x.1.pg).2=0) with
  | false=>rw[hq,C8] at hput;simp only[RS];exact hjj _ _ ⟨_,s1.d,rfl,h3,hF3,by rw[hput,hq];rfl⟩
  | true=>
   rw[hq,D8] at hput;have hlen:(pEnc x.1.pg).1.length<=9223372036854775807:=by rw[ij (by rw[<- sX];exact F9 hq)];omega
   have hnum:=h3.wf.nums x.1 (F7 (h3.hP.rW hi).1);have hpg:=h3.wf.pg;have e1:IntKind.i64.wrap (8*x.1.num)=8*x.1.num:=by rw[af];omega
   have e2:IntKind.i64.wrap ((s1.p.frm:Int)+8*x.1.num)=(s1.p.frm:Int)+8*x.1.num:=by rw[af];omega
   have hfd:=Fm.drew (λ_=>False) w3;have h3d:=h3.aS hfd;simp only[RS,h3.hP.c0,h3.hP.c2,h3.hP.f6 hi,JF,e1,e2];refine(bS h3d.hD _ _ hlen).mono ?_;rintro _ w4 ⟨rfl,hd4,hf4⟩;obtain⟨h4,hF4⟩:=h3d.o7 hd4 hf4
   try simp only[RS]
   refine hjj _ _ ⟨_,_,rfl,h4,bX hF3 (bX (eS hfd) hF4),?_⟩;rw[hput]
 intro jj hjj;have hfd:=Fm.drew (λ_=>False) w;have hd:=h.aS hfd;refine⟨λw'=>Fm (λ_=>False) w w',hfd,?_⟩;simp only[RS,h.hP.c1,JF];refine⟨iv x.1.pg.lsn,λw' h'=>?_,?_⟩
 ·simp only[RS,(h.hP.aS h').f0 hi]<;>trivial
 refine(iH hd.hL).mono ?_;rintro _ w2 ⟨rfl,hf2⟩;have hF2:=Fmf hfd hf2;refine⟨hF2,?_⟩;have h2:=h.aS hF2;cases hq:decide ((s.l.last:Int)<=x.1.pg.lsn) with
 | false=>rw[hq,C8] at hE;simp only[RS,hq];exact hjj _ _ ⟨rfl,s,h2,rfl,eS hF2,hE⟩
 | true=>
  rw[hq,D8] at hE;have hfd2:=Fm.drew (λ_=>False) w2;simp only[RS,hq,h2.hP.c1,h2.hP.f0 hi];refine((h2.aS hfd2).flush x.1.pg.lsn).mono ?_;rintro _ w3 ⟨rfl,h3,hF3⟩;have hF3':=bX (eS (Fmf hF2 hfd2)) hF3;simp only[RS,aF];cases hz:decide ((s.l.flush x.1.pg.lsn s.d).2.2=0) with
  | false=>rw[hz,C8] at hE;simp only[RS];rw[hE];exact⟨rfl,⟨F,h3⟩,hF3'⟩
  | true=>rw[hz,D8] at hE;simp only[RS];refine h3.synced.mono ?_;rintro _ w4 ⟨h4,hF4⟩;exact hjj _ _ ⟨rfl,_,h4,rfl,bX hF3' hF4,hE⟩
end
abbrev nlv:Value:=.slice none 0 0
theorem Ez(w:World):(Instr.build 283 #[(1,iv (-1))]).run prog w=.ok (.agg (frC (pf0,nlv)).toArray) w:=kR
theorem EA(p:Pg)(a:Option Addr)(j c:Nat)(n:Int)(w:World):(Instr.build 283 #[(0,.agg (pcs p (.slice a j c))),(1,iv n)]).run prog w=.ok (.agg (frC (⟨p,n,false⟩,.slice a j c)).toArray) w:=kR
theorem EB(p:Pg)(a:Option Addr)(j c:Nat)(n:Int)(w:World):(Instr.build 283 #[(0,.agg (pcs p (.slice a j c))),(1,iv n),(2,.bool true)]).run prog w=.ok (.agg (frC (⟨p,n,true⟩,.slice a j c)).toArray) w:=kR
theorem CA{x:PV}(h:x.2.oneCell'=true):∀u∈(frC x).toArray.toList,u.oneCell'=true:=by intro u hu;simp[frC] at hu;rcases hu with rfl|rfl|rfl|rfl|rfl|rfl|rfl|rfl<;>first|rfl|assumption
theorem PgAs.sl{w:World}{cs:Array Value}{p:Pg}(h:PgAs w cs p):∃a j c,cs=pcs p (.slice a j c):=by obtain⟨v,h1,_,h3⟩:=h.ex;obtain⟨a,j,c,rfl⟩:=aZ h3;exact⟨a,j,c,h1⟩
theorem yj(s:PS)(i:Nat):(s.put i).1.p.fr.length=s.p.fr.length/\(s.put i).1.p.pages=s.p.pages/\(s.put i).1.p.frm=s.p.frm:=by
 unfold PS.put;cases decide ((pEnc (s.p.get i).pg).2=0) with
 | false=>exact⟨rfl,rfl,rfl⟩
 | true=>
  cases decide ((s.putW i).2=0) with
  | false=>exact⟨rfl,rfl,rfl⟩
  | true=>exact⟨Pl.lay_len _ _ _,rfl,rfl⟩
theorem mO(s:PS)(i:Nat):(s.write1 i).1.p.fr.length=s.p.fr.length/\(s.write1 i).1.p.pages=s.p.pages/\(s.write1 i).1.p.frm=s.p.frm:=by
 unfold PS.write1;cases decide ((s.l.last:Int)<=(s.p.get i).pg.lsn) with
 | false=>exact yj s i
 | true=>
  cases decide ((s.flu i).2.2=0) with
  | false=>exact⟨rfl,rfl,rfl⟩
  | true=>exact yj _ i
theorem tn(s:PS)(pick:Int):(s.take pick).1.p.pages=s.p.pages/\(s.take pick).1.p.frm=s.p.frm:=by
 unfold PS.take;cases s.p.hold (-1) with
 | some i=>exact⟨rfl,rfl⟩
 | none=>
  have:=mO s (PS.pickAt s.p.fr.length pick);simp only;cases(s.p.get (PS.pickAt s.p.fr.length pick)).chg with
  | false=>exact⟨rfl,rfl⟩
  | true=>
   cases decide ((s.write1 (PS.pickAt s.p.fr.length pick)).2=0) with
   | false=>exact this.2
   | true=>exact this.2
section
variable{w w':World}{Xl Xp Q S:Nat->Prop}{pb lb db g m fb ob:Nat}{F:List PV}{s:PS}
theorem mV{X:Nat->Prop}{p:Pl}(h:PIn w X Q pb lb db fb ob F p){i:Nat}(hi:i<F.length)(x:PV)(h1:x.2.oneCell'=true){k:KV}(hk:∀w',w'.heap[fb]?=some (.cells ((F.set i x).flatMap frC).toArray 283)->w'.heap.size=w.heap.size->Fm (·=fb) w w'->k undef w'):
  St 8 w (.pointer (some ⟨fb,i*8,none⟩)) (.agg (frC x).toArray) k:=by
 refine bZ h.fr rfl (by rw[I7,flat_len cU];omega) (CA h1) ?_;intro w' hw' hs' hf';rw[uz _ _ _ (by rw[I7,flat_len cU];show i*8+8<=_;omega)] at hw';refine hk w' ?_ hs' hf';rw[hw',iQ cU F i x hi]
 rfl
theorem SI.lay(h:SI w Xl Xp Q pb lb db g m fb ob F s){Q':Nat->Prop}{i:Nat}{x:PV}(hf:Fm S w w')(hS:∀y,S y->y=fb\/¬SY Xl Xp db g m y)(hfr:w'.heap[fb]?=some (.cells ((F.set i x).flatMap frC).toArray 283))(hx:HeldP w' Q' x.2 x.1.pg)
  (hQ:∀y,Q y->Q' y) (hQ':∀y,Q' y->Q y\/(¬SY Xl Xp db g m y/\y<w'.heap.size)) (hn:x.1.num = -1\/(0<=x.1.num/\x.1.num<(s.p.pages:Int))):SI w' Xl (λy=>Xp y\/Q' y) Q' pb lb db g m fb ob (F.set i x) (s.lay i x.1):=by
 have hfb:=h.hP.xs.2.1;have hno:∀y,SY Xl Xp db g m y->y≠fb->¬S y:=λy hy hne e=>by
  rcases hS y e with e|e
  ·exact hne e
  ·exact e hy
 have hnq:∀y,¬Xp y->SY Xl Xp db g m y->¬Q' y:=λy h1 h2 e=>by
  rcases hQ' y e with e|e
  ·exact h1 (h.hP.xs.2.2.2 y e)
  ·exact e.1 h2
 refine⟨h.hL.keep hf (λy hy=>hno y (.inl hy) (by rintro rfl;exact h.lp _ hy hfb)),h.hD.keep hf (hno _ (.inr (.inr (.inl rfl))) (by rintro rfl;exact h.pd.1 hfb)) (hno _ (.inr (.inr (.inr (.inl rfl)))) (by rintro rfl;exact h.pd.2.1 hfb)) (hno _ (.inr (.inr (.inr (.inr rfl)))) (by rintro rfl;exact h.pd.2.2 hfb)),h.hP.put hf (λy hy=>?_) hfr hx hQ (λy hy=>?_),h.wf.lay hn,?_,h.ld,?_⟩
 ·rcases hS y hy with e|e
  ·exact .inl e
  ·exact .inr (λhx=>e (.inr (.inl hx)))
 ·rcases hQ' y hy with e|e
  ·exact .inl e
  ·exact .inr ⟨λhx=>e.1 (.inr (.inl hx)),e.2⟩
 ·rintro y hy (e|e)
  ·exact h.lp y hy e
  ·exact hnq y (h.lp y hy) (.inl hy) e
 ·refine⟨?_,?_,?_⟩<;>rintro(e|e)
  ·exact h.pd.1 e
  ·exact hnq _ h.pd.1 (.inr (.inr (.inl rfl))) e
  ·exact h.pd.2.1 e
  ·exact hnq _ h.pd.2.1 (.inr (.inr (.inr (.inl rfl)))) e
  ·exact h.pd.2.2 e
  ·exact hnq _ h.pd.2.2 (.inr (.inr (.inr (.inr rfl)))) e
theorem SI.same(h:SI w Xl Xp Q pb lb db g m fb ob F s):(λy=>Xp y\/Q y)=Xp:=by funext y;exact propext ⟨λe=>e.elim id (h.hP.xs.2.2.2 y),.inl⟩
theorem mA(h:SI w Xl Xp Q pb lb db g m fb ob F s)(pick:Int):Cl prog 283 [pv pb,iv pick] w λv w'=>∃F',SI w' Xl Xp Q pb lb db g m fb ob F' (s.take pick).1/\Fm (SY Xl Xp db g m) w w' /\
  (((s.take pick).2.2≠0/\v=.tuple #[.pointer none,iv (s.take pick).2.2])\/((s.take pick).2.2=0/\v=.tuple #[.pointer (some ⟨fb,(s.take pick).2.1*8,none⟩),iv 0]/\(s.take pick).2.1<F'.length)):=by
 have hfl:=h.o8;have hlen:=h.hP.len;refine c283 ?_;refine(dv h.hP hfl.2 (-1)).mono ?_;rintro _ w2 ⟨rfl,rfl⟩;unfold PS.take;cases hh:s.p.hold (-1) with
 | some i=>obtain⟨f,hf,_⟩:=Pl.hold_some hh;have:=(E2.1 hf).1;simp only[kz];simp only[RS];exact⟨F,h,Fm.refl _ _,.inr ⟨tV,tV,oM⟩⟩
 | none=>
  simp only[kz];obtain⟨m1,m2,m3,m4⟩:=Ii (TypeDesc.int .i64) (n:=F.length) oM oM pick;have hpk:PS.pickAt s.p.fr.length pick=ga F.length pick:=by unfold PS.pickAt;rw[hlen]
  rw[hpk];generalize ga F.length pick=i at m3 m4;have hx:F[i]?=some F[i]:=C6 m4;generalize F[i]=x at hx;rw[(h.hP.rW hx).2];have hfd:=Fm.drew (λ_=>False) w2;simp only[RS,h.hP.c4,JF,m1,m2,m3,PIn.ix i m4 fb];refine aJ (λvs w'=>vs=[]/\∃F1 s1,F1.length=F.length/\SI w' Xl Xp Q pb lb db g m fb ob F1 s1/\Fm (SY Xl Xp db g m) w2 w'/\(bif x.1.chg then(bif decide ((s.write1 i).2=0) then((s.write1 i).1.lay i pf0,i,0) else((s.write1 i).1,0,(s.write1 i).2)) else(s.lay i pf0,i,0))=(s1.lay i pf0,i,0)) ?_ ?_
  ·rintro _ w4 ⟨rfl,F1,s1,hl1,h4,hF4,he⟩ _;refine⟨rfl,?_⟩;rw[he];refine ag (Ez _) ?_;simp only[RS];refine mV h4.hP (i:=i) oM (pf0,nlv) rfl ?_;intro w5 hw5 hs5 hf5;have h5:=h4.lay (x:=(pf0,nlv)) hf5 (λy e=>.inl e) hw5 (HeldP.zero _ _) (λ_ e=>e) (λy e=>.inl e) (.inl rfl);rw[h4.same] at h5;exact⟨_,h5,bX hF4 (hf5.mono (by rintro y _ rfl;exact .inr (.inl h4.hP.xs.2.1))),.inr ⟨tV,tV,by rw[I3];omega⟩⟩
  intro jj hjj;have hd:=h.aS hfd;simp only[RS,h.hP.f7 hx];cases hc:x.1.chg with
  | false=>rw[hc,C8] at hjj;simp only[RS];exact hjj _ _ ⟨rfl,F,s,rfl,hd,eS hfd,rfl⟩
  | true=>
   rw[hc,D8] at hjj;simp only[D8];simp only[RS];refine(jm hd hx).mono ?_;rintro _ w3 ⟨rfl,⟨F',h3⟩,hF3⟩;have hF3':=bX (eS hfd) hF3;simp only[RS,aF];cases hq:decide ((s.write1 i).2=0) with
   | true=>rw[hq,D8] at hjj;simp only[RS];exact hjj _ _ ⟨rfl,F',(s.write1 i).1,by rw[h3.hP.len,(mO s i).1,hlen],h3,hF3',rfl⟩
   | false=>rw[C7] at hq;simp only[RS,C8];exact⟨F',h3,hF3',.inl ⟨hq,tV⟩⟩
theorem Db{d:Dk}(h:d.Wf)(a k:Int):(d.read a k).1.length<=64*65536:=by
 unfold Dk.read;cases d.gone with
 | true=>simp
 | false=>
  cases d.has a k with
  | false=>simp
  | true=>simp only[C8,JE];rw[Dk.flat_len (λx hx=>h.s1 x (List.mem_of_mem_drop (List.mem_of_mem_take hx))),E5,G4];have:=h.n1;omega
theorem kE{p:Pl}{n:Int}(h:p.known n=0):0<=n/\n<(p.pages:Int):=by
 unfold Pl.known at h;cases h1:decide (n<0) with
 | true=>rw[h1] at h;cases h
 | false=>
  cases h2:decide ((p.pages:Int)<=n) with
  | true=>rw[h1,h2] at h;cases h
  | false=>rw[C7] at h1 h2;omega
theorem iY{p:Pg}{v u:Value}(h:pcs p v=pcs p u):v=u:=by
 have e:(pcs p v).toList=(pcs p u).toList:=by rw[h]
 simpa[pcs] using e
theorem rj(h:SI w Xl Xp Q pb lb db g m fb ob F s)(n pick:Int):Cl prog 199 [pv pb,iv n,iv pick] w λv w'=>∃u,v=.tuple #[.agg (pcs (s.fetch n pick).2.1 u),iv (s.fetch n pick).2.2]/\PgOw w' w.heap.size (pcs (s.fetch n pick).2.1 u) (s.fetch n pick).2.1 /\
  (∃Xp' Q' F',SI w' Xl Xp' Q' pb lb db g m fb ob F' (s.fetch n pick).1/\(∀y,Xp' y->Xp y\/w.heap.size<=y)/\∀k,u.ownBlock=some k->¬Xp' k)/\Fm (SY Xl Xp db g m) w w':=by
 have hfl:=h.o8;have hlt:=h.lt;have hfetch:s.fetch n pick=bif decide (s.p.known n=0) then(match s.p.hold n with
  | some i=>(s,(s.p.get i).pg,0)
  | none=>bif decide ((s.raw n).2=0) then(bif decide ((dJ (s.raw n).1).2=0) then(bif decide ((s.take pick).2.2=0) then((s.take pick).1.lay (s.take pick).2.1 ⟨(dJ (s.raw n).1).1,n,false⟩,(dJ (s.raw n).1).1,0) else((s.take pick).1,pg0,(s.take pick).2.2)) else(s,pg0,60)) else(s,pg0,(s.raw n).2))
  else(s,pg0,s.p.known n):=rfl
 refine c199 ?_;show New (pcs pg0 (.slice none 0 0)) 68 w _;refine ae ?_;intro x1 w1 hx1 hs1 hw1 hf1;have h1:=h.aS hf1;have bad:∀{w2:World} {Xp' Q' F'} {s':PS},SI w2 Xl Xp' Q' pb lb db g m fb ob F' s'->(∀y,Xp' y->Xp y\/w.heap.size<=y)->w2.heap[x1]?=some (.cells (pcs pg0 nlv) 68)->¬SY Xl Xp' db g m x1->Fm (SY Xl Xp db g m) w w2->∀e:Int,s.fetch n pick=(s',pg0,e) ->
   St 6 w2 (pv x1) (.agg (pcs pg0 nlv)) λu_8 w_9=>Pu (aI w_9 ⟨x1,0,none⟩ 6) (λuu=>(λ(v:Value) w'=>∃u,v=.tuple #[.agg (pcs (s.fetch n pick).2.1 u),iv (s.fetch n pick).2.2]/\PgOw w' w.heap.size (pcs (s.fetch n pick).2.1 u) (s.fetch n pick).2.1 /\
  (∃Xp' Q' F',SI w' Xl Xp' Q' pb lb db g m fb ob F' (s.fetch n pick).1/\(∀y,Xp' y->Xp y\/w.heap.size<=y)/\∀k,u.ownBlock=some k->¬Xp' k)/\Fm (SY Xl Xp db g m) w w') (Value.tuple #[uu,iv e]) w_9):=by
  intro w2 Xp' Q' F' s' h2 hX hw2 hno hF e he;rw[he];refine ao hw2 rfl rfl (bA rfl) ?_;intro w3 hw3 hs3 hf3;refine yy hw3 rfl ⟨nlv,rfl,PgOw.zero _ _,⟨Xp',Q',F',h2.keep hf3 (by rintro y hy rfl;exact hno hy),hX,λk hk=>by cases hk⟩,hF.trans hf3 iT (by rintro y hy rfl;omega)⟩
 have good:∀{w2:World} {Xp' Q' F'} {s':PS} {i:Nat} {x:PV},SI w2 Xl Xp' Q' pb lb db g m fb ob F' s'->(∀y,Xp' y->Xp y\/w.heap.size<=y)->w2.heap[x1]?=some (.cells (pcs pg0 nlv) 68)->¬SY Xl Xp' db g m x1->Fm (SY Xl Xp db g m) w w2->F'[i]?=some x->s.fetch n pick=(s',x.1.pg,0) ->
   Cl prog 281 [.pointer (some ⟨fb,i*8,none⟩)] w2 λt71 w_66=>St 6 w_66 (pv x1) t71 λu_8 w_9=>Pu (aI w_9 ⟨x1,0,none⟩ 6) (λuu=>(λ(v:Value) w'=>∃u,v=.tuple #[.agg (pcs (s.fetch n pick).2.1 u),iv (s.fetch n pick).2.2]/\PgOw w' w.heap.size (pcs (s.fetch n pick).2.1 u) (s.fetch n pick).2.1 /\
  (∃Xp' Q' F',SI w' Xl Xp' Q' pb lb db g m fb ob F' (s.fetch n pick).1/\(∀y,Xp' y->Xp y\/w.heap.size<=y)/\∀k,u.ownBlock=some k->¬Xp' k)/\Fm (SY Xl Xp db g m) w w') (Value.tuple #[uu,iv 0]) w_9):=by
  intro w2 Xp' Q' F' s' i x h2 hX hw2 hno hF hx he;rw[he];refine(rk h2.hP hx).mono ?_;rintro _ w3 ⟨cs,rfl,ho,hf3⟩;obtain⟨u,rfl,hou⟩:=ho.ex;have hul:=aP hou;have h3:=h2.aS hf3;have z2:=hF.size;have hx1l:=aj hw2;refine ao (hf3.heap hw2 id) rfl rfl (bA (az hou)) ?_;intro w4 hw4 hs4 hf4;refine yy hw4 rfl ⟨u,rfl,⟨⟨u,rfl,aU (ah hou hf4 (λk hk _ _ e=>oM)) z2⟩,ho.small,ho.ins⟩,⟨Xp',Q',F',h3.keep hf4 (by rintro y hy rfl;exact hno hy),hX,λk hk e=>?_⟩,(bX hF (eS hf3)).trans hf4 iT (by rintro y hy rfl;omega)⟩;have:=(hul k hk).1;have:=h2.lt k (.inr (.inl e));omega
 have hnx:¬SY Xl Xp db g m x1:=λe=>by have:=hlt _ e;omega
 refine(gD h1.hP n).mono ?_;rintro _ w1 ⟨rfl,rfl⟩;simp only[RS,aF];cases hk:decide (s.p.known n=0) with
 | false=>rw[hk,C8] at hfetch;simp only[RS];refine ag (gP _) ?_;exact bad h1 (λy e=>.inl e) hw1 hnx (eS hf1) _ hfetch
 | true=>
  rw[hk,D8] at hfetch;rw[C4] at hk;have hrange:=kE hk;have hpg:=h.wf.pg;simp only[RS];refine(dv h1.hP hfl.2 n).mono ?_;rintro _ w1 ⟨rfl,rfl⟩;cases hh:s.p.hold n with
  | some i=>rw[hh] at hfetch;obtain⟨f,hf,_⟩:=Pl.hold_some hh;rw[<- h.hP.fs,E4,E6] at hf;obtain⟨x,hx,rfl⟩:=hf;simp only[(h.hP.rW hx).2] at hfetch;simp only[kz];simp only[RS];exact good h1 (λy e=>.inl e) hw1 hnx (eS hf1) hx hfetch
  | none=>
   rw[hh] at hfetch;simp only at hfetch;simp only[kz];have hfd:=Fm.drew (λ_=>False) w1;have e1:IntKind.i64.wrap (8*n)=8*n:=by rw[af];omega
   have e2:IntKind.i64.wrap ((s.p.frm:Int)+8*n)=(s.p.frm:Int)+8*n:=by rw[af];omega
   have h2:=h1.aS hfd;have hw2:=hfd.heap hw1 id;have hF2:=Fmf hf1 hfd;have hle:=Db h.hD.wf ((s.p.frm:Int)+8*n) 8;have hraw:s.raw n=s.d.read ((s.p.frm:Int)+8*n) 8:=rfl;simp only[RS,h1.hP.c0,h1.hP.c2,JF,e1,e2];refine(fL h2.hD ((s.p.frm:Int)+8*n) 8).mono ?_;rintro _ w2 ⟨rfl,rfl⟩;rw[<- hraw] at hle ⊢;generalize s.raw n=r at hfetch hle;obtain⟨rs,re⟩:=r;simp only at hfetch hle;simp only[RS,aF];cases hr:decide (re=0) with
   | false=>rw[hr,C8] at hfetch;simp only[RS];refine ag (gP _) ?_;exact bad h2 (λy e=>.inl e) hw2 hnx (eS hF2) _ hfetch
   | true=>
    rw[hr,D8] at hfetch;simp only[RS];refine(ke _ rs oM).mono ?_;rintro _ w3 ⟨cs,rfl,ho3,hf3⟩;generalize dJ rs=pd at hfetch ho3;obtain⟨pg,pe⟩:=pd;simp only at hfetch ho3;obtain⟨v3,rfl,hou3⟩:=ho3.ex;obtain⟨a3,j3,c3,rfl⟩:=aZ (CellsAt.aT hou3);have hF3:=Fmf hF2 hf3;have h3:=h2.aS hf3;have hw3:=hf3.heap hw2 id;simp only[RS];refine ae ?_;intro x4 w4 hx4 hs4 hw4 hf4;refine ao hw4 rfl rfl (bA rfl) ?_;intro w5 hw5 hs5 hf5;have hF5:Fm (λ_=>False) w3 w5:=Fm.own hf4 hf5 (by rintro y rfl;omega);have hF05:=Fmf hF3 hF5;have h5:=h3.aS hF5;have hw15:=hF5.heap hw3 id;have ho5:=ho3.keep hF5;have hul3:=aP hou3;have z1:=hf1.size;have z2:=hF2.size;have z3:=hF3.size;have z5:=hF05.size;simp only[RS,aF];cases hp:decide (pe=0) with
    | false=>rw[hp,C8] at hfetch;simp only[RS];refine ag (gP _) ?_;exact bad h5 (λy e=>.inl e) hw15 hnx (eS hF05) _ hfetch
    | true=>
     rw[hp,D8] at hfetch;simp only[RS];refine(mA h5 pick).mono ?_;rintro _ w6 ⟨F6,h6,hF6,hcase⟩;have hw16:=hF6.heap hw15 hnx;have hF06:=bX (eS hF05) hF6;have z6:=hF6.size;rcases hcase with⟨q1,rfl⟩|⟨q1,rfl,q2⟩
     ·rw[C3 q1,C8] at hfetch;simp only[RS,aF,C3 q1];refine ag (gP _) ?_;exact bad h6 (λy e=>.inl e) hw16 hnx hF06 _ hfetch
     ·rw[q1,C9 rfl,D8] at hfetch;have hnx4:¬SY Xl Xp db g m x4:=λe=>by have:=hlt _ e;omega
      have hw46:=hF6.heap hw5 hnx4;simp only[RS,aF,Jm,aa hw46 (show(pcs pg (Value.slice a3 j3 c3)).size=6 from rfl)];refine ag (EA _ _ _ _ _ _) ?_
      try simp only[RS]
      have hdis:∀k,(Value.slice a3 j3 c3).ownBlock=some k->¬SY Xl Xp db g m k:=λk hk e=>by have:=hlt _ e;have:=(hul3 k hk).1;have:=hF2.size;have:w1.drew.heap.size=w1.heap.size:=rfl;omega
      refine mV h6.hP q2 (⟨pg,n,false⟩,.slice a3 j3 c3) rfl ?_;intro w7 hw7 hs7 hf7;have hfb:fb≠x1:=λe=>hnx (by rw[<- e];exact .inr (.inl h6.hP.xs.2.1));have ho6:w6.ownsRow w.heap.size 9 1 (.slice a3 j3 c3) pg.items.length (pg.items.map stv):=by obtain⟨v5,e5,ho5'⟩:=ho5.ex;rw[<- iY e5] at ho5';exact aU (ah ho5' hF6 (λk _ _ hk=>hdis k hk)) z2
      have ho7:w7.ownsRow w.heap.size 9 1 (.slice a3 j3 c3) pg.items.length (pg.items.map stv):=ah ho6 hf7 (λk _ _ hk e=>hdis k hk (by rw[e];exact .inr (.inl h6.hP.xs.2.1)));have hheld:HeldP w7 (λy=>Q y\/(Value.slice a3 j3 c3).ownBlock=some y) (.slice a3 j3 c3) pg:=HeldP.aT (b:=w.heap.size) ⟨⟨_,rfl,ho7⟩,ho3.small,ho3.ins⟩ (λy hy=>.inr hy);have h7:=h6.lay (x:=(⟨pg,n,false⟩,.slice a3 j3 c3)) hf7 (λy e=>.inl e) hw7 hheld (λy e=>.inl e) (λy e=>by
       rcases e with e|e
       ·exact .inl e
       ·exact .inr ⟨hdis y e,(aP ho7 y e).2⟩) (.inr ⟨hrange.1,by rw[(tn s pick).1];exact hrange.2⟩)
      refine good h7 (λy e=>?_) (hf7.heap hw16 (λe=>hfb e.symm)) (λe=>?_) (hF06.trans hf7 iT (by rintro y _ rfl;exact .inr (.inl h6.hP.xs.2.1))) (i:=(s.take pick).2.1) (x:=(⟨pg,n,false⟩,.slice a3 j3 c3)) (by rw[Kn,IY rfl,IY q2]) hfetch
      ·rcases e with e|e|e
       ·exact .inl e
       ·exact .inl (h6.hP.xs.2.2.2 y e)
       ·exact .inr (aP ho7 y e).1
      ·rcases e with e|(e|e|e)|e
       ·exact hnx (.inl e)
       ·exact hnx (.inr (.inl e))
       ·exact hnx (.inr (.inl (h6.hP.xs.2.2.2 _ e)))
       ·have:=(hul3 _ e).1;have:w1.drew.heap.size=w1.heap.size:=rfl;omega
       ·exact hnx (.inr (.inr e))
theorem yf(h:SI w Xl Xp Q pb lb db g m fb ob F s){cs:Array Value}{b:Pg}(hb:∀w',Fm (SY Xl Xp db g m) w w'->PgAs w' cs b)(n pick:Int):Cl prog 233 [pv pb,iv n,.agg cs,iv pick] w λv w'=>v=iv (s.set n b pick).2 /\
  (∃Xp' Q' F',SI w' Xl Xp' Q' pb lb db g m fb ob F' (s.set n b pick).1/\∀y,Xp' y->Xp y\/w.heap.size<=y)/\Fm (SY Xl Xp db g m) w w':=by
 have hfl:=h.o8;have hlt:=h.lt;obtain⟨a0,j0,c0,hcs⟩:=(hb w (Fm.refl _ _)).sl;subst hcs;have hset:s.set n b pick=bif decide (s.p.known n=0) then(bif decide ((pEnc b).2=0) then(bif decide (b.lsn<1) then(s,1) else(match s.p.hold n with
   | some i=>(s.own i n b,0)
   | none=>bif decide ((s.take pick).2.2=0) then((s.take pick).1.own (s.take pick).2.1 n b,0) else((s.take pick).1,(s.take pick).2.2))) else(s,(pEnc b).2)) else(s,s.p.known n):=rfl
 refine c233 ?_;refine ae ?_;intro x1 w1 hx1 hs1 hw1 hf1;have h1:=h.aS hf1;have hnx:¬SY Xl Xp db g m x1:=λe=>by have:=hlt _ e;omega
 have same:∀{w2:World} {s':PS} {F':List PV} {e:Int},SI w2 Xl Xp Q pb lb db g m fb ob F' s'->Fm (SY Xl Xp db g m) w w2->s.set n b pick=(s',e)->iv e=iv (s.set n b pick).2/\(∃Xp' Q' F',SI w2 Xl Xp' Q' pb lb db g m fb ob F' (s.set n b pick).1/\∀y,Xp' y->Xp y\/w.heap.size<=y)/\Fm (SY Xl Xp db g m) w w2:=by intro w2 s' F' e h2 hF he;rw[he];exact⟨rfl,⟨Xp,Q,F',h2,λy e=>.inl e⟩,hF⟩
 refine(gD h1.hP n).mono ?_;rintro _ w1 ⟨rfl,rfl⟩;simp only[RS,aF];cases hk:decide (s.p.known n=0) with
 | false=>rw[hk,C8] at hset;simp only[RS];exact same h1 (eS hf1) hset
 | true=>
 rw[hk,D8] at hset;rw[C4] at hk;have hrange:=kE hk;have hpg:=h.wf.pg;have hb1:=hb w1 (eS hf1);simp only[RS,aa hw1 (show(Value.cells (Value.agg (pcs b (Value.slice a0 j0 c0)))).size=6 from rfl)];refine(cH hb1).mono ?_;rintro _ w2 ⟨rfl,hf2⟩;rw[xb];have h2:=h1.aS hf2;have hF2:=Fmf hf1 hf2;have hw2:=hf2.heap hw1 id;have c0':w2.cell? ⟨x1,0,none⟩=some (iv b.lsn):=by rw[ab hw2];rfl
 simp only[RS,aF];cases he:decide ((pEnc b).2=0) with
 | false=>rw[he,C8] at hset;simp only[RS];exact same h2 (eS hF2) hset
 | true=>
 rw[he,D8] at hset;simp only[RS,c0'];cases hl:decide (b.lsn<1) with
 | true=>rw[hl,D8] at hset;simp only[RS];exact same h2 (eS hF2) hset
 | false=>
 rw[hl,C8] at hset;simp only[RS];refine(dv h2.hP hfl.2 n).mono ?_;rintro _ w2 ⟨rfl,rfl⟩;refine aJ (λvs w'=>∃(i:Nat) (s1:PS) (F1:List PV),vs=[.pointer (some ⟨fb,i*8,none⟩)]/\i<F1.length/\SI w' Xl Xp Q pb lb db g m fb ob F1 s1/\s1.p.pages=s.p.pages/\Fm (SY Xl Xp db g m) w w'/\w'.heap[x1]?=some (.cells (pcs b (.slice a0 j0 c0)) 68)/\s.set n b pick=(s1.own i n b,0)) ?_ ?_
 ·rintro _ w3 ⟨i,s1,F1,rfl,hi,h3,hpgs,hF3,hw3,he3⟩ _;refine⟨_,rfl,?_⟩;rw[he3];clear hset same;have hb3:=hb w3 hF3;simp only[RS,aa hw3 (show(pcs b (Value.slice a0 j0 c0)).size=6 from rfl)];refine ag (EB _ _ _ _ _ _) ?_
  try simp only[RS]
  refine mV h3.hP hi (⟨b,n,true⟩,.slice a0 j0 c0) rfl ?_;intro w4 hw4 hs4 hf4;have hfbx:fb≠x1:=λe=>hnx (by rw[<- e];exact .inr (.inl h3.hP.xs.2.1));have hw14:=hf4.heap hw3 (λe=>hfbx e.symm);have c5:w4.cell? ⟨x1,5,none⟩=some (.slice a0 j0 c0):=by rw[ab hw14];rfl
  have hfbY:∀y,y=fb->SY Xl Xp db g m y:=by rintro y rfl;exact .inr (.inl h3.hP.xs.2.1)
  have hF4:Fm (SY Xl Xp db g m) w w4:=hF3.trans hf4 iT (λy _ e=>hfbY y e);have hb4:=hb w4 hF4;obtain⟨v0,hv0,v1,v2⟩:=hb4.ex;obtain rfl:=iY hv0;simp only[RS,c5];refine(dh v2 hb4.ins.2.2.2.2.2).mono ?_;rintro r w5 ⟨ho5,hf5⟩;have hr1:=az ho5;have hrl:=aP ho5
  try simp only[RS]
  refine au (hf5.heap hw4 id) (j:=i*8+5) (by rw[I7,flat_len cU,I3];omega) hr1 ?_;intro w6 hw6 hs6 hf6;have hx':(F1.set i ((⟨b,n,true⟩,.slice a0 j0 c0):PV))[i]?=some ((⟨b,n,true⟩,.slice a0 j0 c0):PV):=by rw[Kn,IY rfl,IY hi]
  have hset1:=gX cU (y:=((⟨b,n,true⟩,r):PV)) (u:=r) hx' (j:=5) oM rfl;rw[JS,<- hset1,JZ] at hw6;have hf36:Fm (λy=>y=fb) w3 w6:=(hf4.trans hf5 iT iE).trans hf6 iT iT;have hF6:Fm (SY Xl Xp db g m) w w6:=hF3.trans hf36 iT (λy _ e=>hfbY y e);have z3:=hF3.size;have z4:=hf4.size;have z5:=hf5.size;have hlt3:=h3.lt;have hfb3:=hlt3 fb (hfbY fb rfl);have hrn:∀k,r.ownBlock=some k->¬SY Xl Xp db g m k:=λk hk e=>by have:=hlt3 k e;have:=(hrl k hk).1;omega
  have ho6:w6.ownsRow w4.heap.size 9 1 r b.items.length (b.items.map stv):=ah ho5 hf6 (λk hk _ _ e=>oM);have hheld:HeldP w6 (λy=>Q y\/r.ownBlock=some y) r b:=HeldP.aT (b:=w4.heap.size) ⟨⟨_,rfl,ho6⟩,hb4.small,hb4.ins⟩ (λy hy=>.inr hy);have h6:=h3.lay (x:=(⟨b,n,true⟩,r)) hf36 (λy e=>.inl e) hw6 hheld (λy e=>.inl e) (λy e=>by
   rcases e with e|e
   ·exact .inl e
   ·exact .inr ⟨hrn y e,(aP ho6 y e).2⟩) (.inr ⟨hrange.1,by rw[hpgs];exact hrange.2⟩)
  have hXp:∀y,(Xp y\/(Q y\/r.ownBlock=some y))->Xp y\/w.heap.size<=y:=λy e=>by
   rcases e with e|e|e
   ·exact .inl e
   ·exact .inl (h3.hP.xs.2.2.2 y e)
   ·have:=(hrl y e).1;exact .inr oM
  have hown:s1.own i n b=⟨{ s1.p.lay i ⟨b,n,true⟩ with owed:=bif (getD s1.p.owed n).isNone then cM s1.p.owed n b.lsn else s1.p.owed },s1.l,s1.d⟩:=rfl;have hw16:=hf6.heap (hf5.heap hw14 id) (λe=>hfbx e.symm);have c06:w6.cell? ⟨x1,0,none⟩=some (iv b.lsn):=by rw[ab hw16];rfl
  refine aJ (λvs w'=>vs=[]/\SI w' Xl (λy=>Xp y\/(Q y\/r.ownBlock=some y)) (λy=>Q y\/r.ownBlock=some y) pb lb db g m fb ob (F1.set i (⟨b,n,true⟩,r)) (s1.own i n b)/\Fm (SY Xl Xp db g m) w w') ?_ ?_
  ·rintro _ w7 ⟨rfl,h7,hF7⟩ _;exact⟨rfl,tV,⟨_,_,_,h7,hXp⟩,hF7⟩
  intro jj hjj;refine(mz h6.hP n).mono ?_;rintro _ w6 ⟨rfl,rfl⟩;have hpo:(s1.lay i ⟨b,n,true⟩).p.owed=s1.p.owed:=rfl;rw[hpo];cases hq:(getD s1.p.owed n).isNone with
  | false=>simp only[RS];refine hjj _ _ ⟨rfl,?_,hF6⟩;rw[hown,hq,C8];exact h6
  | true=>have hfd:=Fm.drew (λ_=>False) w6;have h7:=h6.aS hfd;have hF7:=bX hF6 (eS hfd);simp only[RS,h6.hP.c5,c06,JF];obtain⟨w8,hr8,hm8,hf8,hs8⟩:=bk FL h7.hP.mp n b.lsn;refine cA hr8 ?_;have hobX:=h7.hP.xs.2.2.1;have hne:∀y,(Xp y\/(Q y\/r.ownBlock=some y))->y≠ob->¬y=ob:=λy _ e=>e;refine hjj _ _ ⟨rfl,?_,hF7.trans hf8 iT (by rintro y _ rfl;exact .inr (.inl h3.hP.xs.2.2.1))⟩;rw[hown,hq,D8];refine⟨h7.hL.keep hf8 (by rintro y hy rfl;exact h7.lp _ hy hobX),h7.hD.keep hf8 (by rintro rfl;exact h7.pd.1 hobX) (by rintro rfl;exact h7.pd.2.1 hobX) (by rintro rfl;exact h7.pd.2.2 hobX),⟨hf8.heap h7.hP.st h7.hP.po,hf8.heap h7.hP.fr h7.hP.fo,hm8,h7.hP.fs,λx hx=>(h7.hP.it x hx).keep hf8 (by rintro y hy rfl;exact h7.hP.qs.2.2 hy),h7.hP.xs,h7.hP.qs,λy hy=>E3 (h7.hP.lt y hy) hf8.size⟩,h7.wf.v8 rfl rfl rfl,h7.lp,h7.ld,h7.pd⟩
 intro jj hjj;have hF2':Fm (SY Xl Xp db g m) w w2:=eS hF2;cases hh:s.p.hold n with
 | some i=>rw[hh] at hset;obtain⟨f,hf,_⟩:=Pl.hold_some hh;have hil:=(E2.1 hf).1;rw[<- h.hP.len] at hil;simp only[kz];simp only[RS];exact hjj _ _ ⟨i,s,F,rfl,hil,h2,rfl,hF2',hw2,hset⟩
 | none=>
  rw[hh] at hset;simp only at hset;simp only[kz];simp only[RS];refine(mA h2 pick).mono ?_;rintro _ w3 ⟨F3,h3,hF3,hcase⟩;have hF3':=bX hF2' hF3;rcases hcase with⟨q1,rfl⟩|⟨q1,rfl,q2⟩
  ·rw[C3 q1,C8] at hset;simp only[RS,aF,C3 q1];exact same h3 hF3' hset
  ·rw[q1,C9 rfl,D8] at hset;simp only[RS,aF,Jm];exact hjj _ _ ⟨_,_,F3,rfl,q2,h3,(tn s pick).1,hF3',hF3.heap hw2 hnx,hset⟩
theorem ry(h:SI w Xl Xp Q pb lb db g m fb ob F s)(n:Int):Cl prog 141 [pv pb,iv n] w λv w'=>v=iv (s.write n).2/\(∃F',SI w' Xl Xp Q pb lb db g m fb ob F' (s.write n).1)/\Fm (SY Xl Xp db g m) w w':=by
 have hfl:=h.o8;unfold PS.write;refine c141 ?_;refine(gD h.hP n).mono ?_;rintro _ w1 ⟨rfl,rfl⟩;simp only[RS,aF];cases hk:decide (s.p.known n=0) with
 | false=>simp only[RS,C8];exact⟨tV,⟨F,h⟩,Fm.refl _ _⟩
 | true=>
  simp only[RS,D8];refine(dv h.hP hfl.2 n).mono ?_;rintro _ w1 ⟨rfl,rfl⟩;cases hh:s.p.hold n with
  | none=>simp only[kz];simp only[RS];exact⟨tV,⟨F,h⟩,Fm.refl _ _⟩
  | some i=>
   obtain⟨f,hf,_⟩:=Pl.hold_some hh;rw[<- h.hP.fs,E4,E6] at hf;obtain⟨x,hx,rfl⟩:=hf;simp only[kz,(h.hP.rW hx).2];simp only[RS,h.hP.f7 hx];cases hc:x.1.chg with
   | false=>simp only[RS,C8];exact⟨tV,⟨F,h⟩,Fm.refl _ _⟩
   | true=>simp only[RS,D8];refine(jm h hx).mono ?_;rintro _ w3 ⟨rfl,h3,hF3⟩;exact⟨tV,h3,hF3⟩
end
def pfz:Pf:=⟨pg0,0,false⟩
theorem CB:∀k,k<8->(frC (pfz,nlv))[k]?=some ((frC (pfz,nlv)).toArray[k]!):=by
 intro k hk
 match k,hk with
 | 0,_=>rfl
 | 1,_=>rfl
 | 2,_=>rfl
 | 3,_=>rfl
 | 4,_=>rfl
 | 5,_=>rfl
 | 6,_=>rfl
 | 7,_=>rfl
theorem qV(n:Nat):madeCells (frC (pfz,nlv)).toArray (n*8)=((List.replicate n (pfz,nlv)).flatMap frC).toArray:=by
 apply Ko;apply JI;intro j;have hsz:(frC (pfz,nlv)).toArray.size=8:=rfl;simp only[madeCells,Array.toList_map,Array.toList_range,E4,hsz];by_cases hj:j<n*8
 ·rw[JJ hj];have h1:(List.replicate n (pfz,nlv))[j / 8]?=some (pfz,nlv):=by rw[J5,IY oM]
  have h2:=dD cU h1 (j:=j % 8) oM;have h3:j / 8*8+j % 8=j:=oM;rw[h3] at h2;rw[h2,CB _ oM]
  rfl
 ·have hl:=flat_len cU (List.replicate n (pfz,nlv));rw[G3] at hl;rw[Jc (l:=List.range (n*8)) (by rw[Kb];omega),Jc (by rw[hl];omega)]
  rfl
theorem CM(w:World)(n:Nat)(h:n<=100000):(Instr.makeSlice 279 (iv n) (iv n)).run prog w=.ok (.slice (some ⟨w.heap.size,0,none⟩) n n) (w.alloc (.cells ((List.replicate n (pfz,nlv)).flatMap frC).toArray 283)):=by
 obtain⟨i,h1,h2,h3,h4⟩:=xr (P:=prog) (e:=283) (z:=.agg (frC (pfz,nlv)).toArray) (n:=8) (b:=88) kR;have hr:=run_make (P:=prog) w 279 283 i _ Tryz.underlying279 h1 h2 .i64 .i64 n n oM (Kd _) (by rw[h4];omega) oM;rw[hr];simp only[H6,h3];rw[<- qV]
 rfl
theorem De{α:Type}(a b:α){i n:Nat}(h:i<n):(List.replicate i a++List.replicate (n - i) b).set i a=List.replicate (i+1) a++List.replicate (n - (i+1)) b:=by
 rw[JT _ _ (by rw[G3];exact D9 _),G3,Jh,show n - i=(n - (i+1))+1 from by omega,JK,JR,List.replicate_succ',G7]
 rfl
theorem Dd{α:Type}(a b:α){i n:Nat}(h:i<n):(List.replicate i a++List.replicate (n - i) b)[i]?=some b:=by rw[I1 (by rw[G3];exact D9 _),G3,Jh,J5,IY oM]
theorem Ew(db lb fb ob n:Nat)(a b:Int)(w:World):(Instr.build 281 #[(0,pv db),(1,pv lb),(2,iv a),(3,iv b),(4,.slice (some ⟨fb,0,none⟩) n n),(5,.map (some ob))]).run prog w=.ok (.agg #[pv db,pv lb,iv a,iv b,.slice (some ⟨fb,0,none⟩) n n,.map (some ob)]) w:=kR
def sO(d:Dk)(frm pages frames:Int):Bool:=decide (frames<1)||(decide (1024<frames)||(decide (pages<1)||(decide (8192<pages)||(decide (frm<0)||decide ((d.cur.length:Int) - 8*pages<frm)))))
def uq(frm pages frames:Int):Pl:=⟨frm.toNat,pages.toNat,List.replicate frames.toNat pf0,[]⟩
theorem yd{w:World}{b g m:Nat}{d:Dk}(h:DAt w b g m d)(lb:Nat)(frm pages frames:Int)(hi:In frm):Cl prog 81 [pv b,pv lb,iv frm,iv pages,iv frames] w λv w'=>Fm (λ_=>False) w w' /\
  ((sO d frm pages frames=true/\v=.tuple #[.pointer none,iv 1])\/(sO d frm pages frames=false/\∃pb fb ob X F,v=.tuple #[pv pb,iv 0]/\PIn w' X (λ_=>False) pb lb b fb ob F (uq frm pages frames)/\(uq frm pages frames).Wf/\∀y,X y->w.heap.size<=y)):=by
 have hn:=h.wf.n1;unfold sO;refine c81 ?_;cases h1:decide (frames<1) with
 | true=>simp only[RS,h1,Jv];exact⟨Fm.refl _ _,.inl ⟨tV,tV⟩⟩
 | false=>
 cases h2:decide (1024<frames) with
 | true=>simp only[RS,h1,h2,Jv,Jf];exact⟨Fm.refl _ _,.inl ⟨tV,tV⟩⟩
 | false=>
 cases h3:decide (pages<1) with
 | true=>simp only[RS,h1,h2,h3,Jv,Jf];exact⟨Fm.refl _ _,.inl ⟨tV,tV⟩⟩
 | false=>
 cases h4:decide (8192<pages) with
 | true=>simp only[RS,h1,h2,h3,h4,Jv,Jf];exact⟨Fm.refl _ _,.inl ⟨tV,tV⟩⟩
 | false=>
 cases h5:decide (frm<0) with
 | true=>simp only[RS,h1,h2,h3,h4,h5,Jv,Jf];exact⟨Fm.refl _ _,.inl ⟨tV,tV⟩⟩
 | false=>
 simp only[RS,h1,h2,h3,h4,h5,Jf];rw[C7] at h1 h2 h3 h4 h5;refine(cG h).mono ?_;rintro _ w ⟨rfl,rfl⟩;have e1:IntKind.i64.wrap (8*pages)=8*pages:=by rw[af];omega
 have e2:IntKind.i64.wrap ((d.cur.length:Int) - 8*pages)=(d.cur.length:Int) - 8*pages:=by rw[af];omega
 simp only[RS,e1,e2];cases h6:decide ((d.cur.length:Int) - 8*pages<frm) with
 | true=>simp only[RS];exact⟨Fm.refl _ _,.inl ⟨tV,tV⟩⟩
 | false=>
 simp only[RS];rw[C7] at h6;obtain⟨n,rfl⟩:=E9 (oM:0<=frames);obtain⟨pg,rfl⟩:=E9 (oM:0<=pages);obtain⟨fr,rfl⟩:=E9 (oM:0<=frm);have hwf:(uq (fr:Int) (pg:Int) (n:Int)).Wf:=⟨by show 1<=(List.replicate (Int.toNat (n:Int)) pf0).length/\(List.replicate (Int.toNat (n:Int)) pf0).length<=1024;rw[G3];omega,by show 1<=Int.toNat (pg:Int)/\Int.toNat (fr:Int)+8*Int.toNat (pg:Int)<=65536;omega,λf hf=>.inl (by rw[List.eq_of_mem_replicate hf];rfl)⟩;refine ag (CM _ n oM) ?_;have hf1:=Fm.alloc (λ_=>False) w (.cells ((List.replicate n (pfz,nlv)).flatMap frC).toArray 283);have hn1:=ay w (.cells ((List.replicate n (pfz,nlv)).flatMap frC).toArray 283);have hs1:=aE w (.cells ((List.replicate n (pfz,nlv)).flatMap frC).toArray 283);generalize w.alloc (.cells ((List.replicate n (pfz,nlv)).flatMap frC).toArray 283)=w1 at hf1 hn1 hs1;refine ag (bf _ _) ?_;have hM:=MapAt.empty w1 iv iv;have hf2:=Fm.alloc (λ_=>False) w1 (.map #[] 0);have hs2:=aE w1 (.map #[] 0);generalize w1.alloc (.map #[] 0)=w2 at hM hf2 hs2;refine ag (Ew b lb w.heap.size w1.heap.size n _ _ _) ?_;refine ae ?_;intro pb w3 hpb hs3 hw3 hf3;have hM3:=hM.keep hf3 id;have hfr3:=hf3.heap (hf2.heap hn1 id) id;have hF3:=Fmf hf1 (Fmf hf2 hf3);have c4:w3.cell? ⟨pb,4,none⟩=some (.slice (some ⟨w.heap.size,0,none⟩) n n):=by rw[ab hw3];rfl
 simp only[RS,c4];refine⟨λvs w'=>∃i:Nat,vs=[iv (i:Int)]/\i<=n/\w'.heap[w.heap.size]?=some (.cells ((List.replicate i (pf0,nlv)++List.replicate (n - i) (pfz,nlv)).flatMap frC).toArray 283)/\Fm (λy=>y=w.heap.size) w3 w',λvs _=>(n - nth vs 0).toNat,⟨0,rfl,oM,by rw[Kl];exact hfr3,Fm.refl _ _⟩,?_⟩;rintro _ w4 ivv ⟨i,hvs,hi,hfr4,hf4⟩;cases hvs;have c4':w4.cell? ⟨pb,4,none⟩=some (.slice (some ⟨w.heap.size,0,none⟩) n n):=hf4.j4 c4 (oM:¬pb=_);by_cases hl:i<n
 ·have d1:decide ((i:Int)<(n:Int))=true:=by rw[C4];omega
  have ei:IntKind.i64.wrap ((i:Int)+1)=((i+1:Nat):Int):=by rw[af]<;>omega
  simp only[RS,d1,c4',PIn.ix i hl w.heap.size];refine au hfr4 (j:=i*8+6) (by rw[I7,flat_len cU,C5,G3,G3];omega) rfl ?_;intro w5 hw5 hs5 hf5;have hset:=gX cU (y:=(pf0,nlv)) (u:=iv (-1)) (Dd (pf0,nlv) (pfz,nlv) hl) (j:=6) oM rfl;rw[JS,<- hset,De _ _ hl] at hw5;simp only[RS,ei];exact⟨⟨i+1,rfl,oM,hw5,hf4.trans hf5 iT iT⟩,by simp only[ba];omega⟩
 ·have hie:i=n:=oM;subst hie;have d1:decide ((i:Int)<(i:Int))=false:=sI;simp only[RS,d1];rw[Jh,List.replicate_zero,H1] at hfr4;refine⟨Fm.own hF3 hf4 (by rintro y rfl;exact D9 _),.inr ⟨tV,pb,w.heap.size,w1.heap.size,λy=>y=pb\/y=w.heap.size\/y=w1.heap.size,List.replicate i (pf0,nlv),tV,⟨?_,hfr4,hM3.keep hf4 (oM:¬w1.heap.size=_),?_,?_,⟨.inl rfl,.inr (.inl rfl),.inr (.inr rfl),λy e=>e.elim⟩,⟨λe=>e,λe=>e,λe=>e⟩,?_⟩,hwf,?_⟩⟩
  ·rw[G3];exact hf4.heap hw3 (oM:¬pb=_)
  ·show(List.replicate i (pf0,nlv)).map (·.1)=List.replicate (Int.toNat (i:Int)) pf0;rw[List.map_replicate,H6]
  ·intro x hx;rw[List.eq_of_mem_replicate hx];exact HeldP.zero _ _
  ·have:=hf4.size;rintro y (rfl|rfl|rfl)<;>omega
  ·rintro y (rfl|rfl|rfl)<;>omega
theorem Et(z:Int)(w:World):(Instr.build 97 #[(0,iv 0),(1,iv 64),(2,iv z)]).run prog w=.ok (.agg #[iv 0,iv 64,iv z]) w:=kR
theorem tR{w:World}{b g m:Nat}{d:Dk}(h:DAt w b g m d):Cl prog 26 [pv b] w λv w'=>w'.ownsRow w.heap.size 3 1 v d.pend.length (d.pend.map λi=>iv (i:Nat))/\(v=.slice none 0 0↔d.pend=[])/\Fm (λ_=>False) w w':=by
 have hn:=h.wf.n1;obtain⟨M,hM,hi⟩:=h.mp;have hmem:∀k,k∈M.map (·.1)↔k∈d.pend.map λi:Nat=>(i:Int):=by
  intro k;rw[E8,E8];constructor
  ·rintro⟨⟨k',x⟩,hp,rfl⟩;obtain⟨i,rfl,hc,_⟩:=(hi _ _).1 hp;exact⟨i,(Dk.pend_mem h.wf).2 hc,rfl⟩
  ·rintro⟨i,hp,rfl⟩;have hc:=(Dk.pend_mem h.wf).1 hp;have hlt:i<d.old.length:=by rw[h.wf.lo,<- h.wf.lc];exact Dk.isC_lt hc
   exact⟨((i:Int),d.old[i]),(hi _ _).2 ⟨i,rfl,hc,C6 hlt⟩,rfl⟩
 have hpr:(d.pend.map λi:Nat=>(i:Int)).Pairwise (· < ·):=by rw[List.pairwise_map];exact(Dk.pend_rises d).imp λh=>by omega
 have hsk:gb M=d.pend.map λi:Nat=>(i:Int):=by
  refine Dk.rising_eq ?_ hpr ?_
  ·have h1:(gb M).Pairwise (λx y=>decide (x<=y)=true):=KI (λa b c h1 h2=>by simp at *;omega) (λa b=>by simp;omega) _;have h2:(gb M).Nodup:=by rw[gb];exact(List.mergeSort_perm _ _).nodup_iff.2 hM.keys
   exact(h1.and h2).imp λ⟨h,hn⟩=>by simp at h;omega
  ·intro x;rw[<- hmem];unfold gb;exact List.mem_mergeSort
 have hlen:M.length=d.pend.length:=by have:=IR List.length hsk;rw[gb,List.length_mergeSort,H2,H2] at this;exact this
 have hpl:=Dk.pend_len d;have hwf:∀p∈M,(Lit.int .i64 p.1).wf=true:=by rintro⟨k,x⟩ hp;obtain⟨i,rfl,hc,_⟩:=(hi _ _).1 hp;have:=Dk.isC_lt hc;rw[h.wf.lc] at this;show(decide (-9223372036854775808<=(i:Int))&&decide ((i:Int)<=9223372036854775807))=true;simp;omega
 refine c26 ?_;simp only[RS,h.c1];refine(uj (some m) w).mono ?_;rintro _ _ ⟨rfl,rfl⟩;refine(pS hM hwf oM).mono ?_;rintro v w' ⟨h1,h2,h3⟩;rw[hlen,hsk] at h1;refine⟨?_,?_,h3⟩
 ·rw[JG] at h1;exact h1
 ·rw[h2,<- List.length_eq_zero_iff,hlen,List.length_eq_zero_iff]
theorem Am{f:Int}(h:0<=f):ixG false 3 1 (.agg #[iv 0,iv 64,iv (f / 3 % 65)]) (iv (f % 3))=some (iv (Dk.kept f:Nat)):=by
 have h1:f % 3=0\/f % 3=1\/f % 3=2:=oM;unfold Dk.kept;rcases h1 with h1|h1|h1
 ·rw[h1];rfl
 ·rw[h1];rfl
 ·rw[h1];have:0<=f / 3 % 65:=oM;show some (iv (f / 3 % 65))=_;rw[IT dC,IT dC,Int.toNat_of_nonneg this]
theorem xJ{f:Int}:aQ (iv f) (iv (-(f+1)))=some (iv (Dk.fold1 f)):=by show some (iv (if -(f+1) > f then -(f+1) else f))=_;unfold Dk.fold1;congr 2;split<;>split<;>omega
theorem qA{w:World}{b g m:Nat}{d:Dk}(h:DAt w b g m d){hv:Value}{L:List Int}(hL:CellsAt w hv L.length 1 (L.map iv))(hLb:L≠[]->∀q,blockOf hv=some q->q≠b/\q≠g/\q≠m)
  (hr:∀f∈L,-9223372036854775808<=f/\f<=9223372036854775807):
  Cl prog 17 [pv b,hv] w λv w'=>v=.tuple #[]/\DAt w' b g m (d.crash L)/\Fm (λx=>x=b\/x=g\/x=m) w w':=by
 have hn:=h.wf.n1;refine c17 ?_;simp only[RS];refine(tR h).mono ?_;rintro pv' w3 ⟨hrow,hnil,hf3⟩;have h3:=h.aS hf3;have hlt:=h.lt;have hplen:=qY hrow;have hpl:=Dk.pend_len d;simp only[RS,hplen];refine⟨λvs w2=>∃k:Nat,vs=[iv k]/\k<=d.pend.length/\DAt w2 b g m (d.mid L k)/\Fm (λx=>x=b\/x=g\/x=m) w3 w2,λvs _=>(d.pend.length - nth vs 0).toNat,⟨0,rfl,oM,by rw[Dk.mid_zero];exact h3,Fm.refl _ _⟩,?_⟩;rintro _ w2 ik ⟨k,hvs,hk,hE,hf⟩;cases hvs;have hF:Fm (λx=>x=b\/x=g\/x=m) w w2:=hf3.trans hf iE iT;have hln:=Dk.mid_len L d k;by_cases hlt2:k<d.pend.length
 ·have e1:decide ((k:Int)<(d.pend.length:Int))=true:=by simpa using hlt2
  have hPk:d.pend[k]?=some d.pend[k]:=C6 hlt2;generalize d.pend[k]=i at hPk;obtain⟨hi1,hi2,hi3,hi4⟩:=Dk.mid_step (how:=L) hPk;have hrow2:=ah hrow hf (λq hq _ _=>oM);obtain⟨ad,hix,_,hc⟩:=(CellsAt.aT hrow2).iS (i:=k) (x:=iv (i:Nat)) (by rw[E4,hPk];rfl) .i64;simp only[RS,e1,hix,hc];refine aJ (λvs w4=>vs=[iv (Dk.fate L k)]/\(w4=w2\/w4=w2.drew)) ?_ ?_
  ·rintro _ w4 ⟨rfl,hw4⟩ _;refine⟨_,rfl,?_⟩;have hF4:Fm (λ_=>False) w2 w4:=by rcases hw4 with rfl|rfl;exact Fm.refl _ _;exact Fm.drew _ _
   have hE4:=hE.aS hF4;clear hw4;have hfp:=Dk.fate_pos hr k;generalize hfe:Dk.fate L k=f at hfp hi4;have q1:=ja (TypeDesc.int .i64) (a:=f) (b:=3) hfp.1 dC hfp.2;have q2:=nK (TypeDesc.int .i64) (a:=f / 3) (b:=65) oM dC oM;have q3:=nK (TypeDesc.int .i64) (a:=f) (b:=3) hfp.1 dC hfp.2;have q4:=Am hfp.1;simp only[RS,q1,q2];refine ag (Et _ _) ?_;simp only[RS,q3,q4];have hkl:=Dk.kept_le f;obtain⟨M,hM,hmem⟩:=hE4.mp;have hil:i<d.old.length:=by rw[h.wf.lo];exact hi1
   have hold:d.old[i]?=some (d.old.getD i []):=Dk.getD_eq hil;have hget:getD M (i:Int)=some (d.old.getD i []):=(getD_some hM.keys).2 ((hmem _ _).2 ⟨i,rfl,hi3,hold⟩);have ho64:=h.wf.pV hi1;refine⟨λw'=>w'.cell? ⟨b,1,none⟩=some (.map (some m))/\MapAt w' m iv stv M,⟨hE4.c1,hM.keep (Fm.drew (λ_=>False) w4) id⟩,?_⟩;refine⟨.map (some m),λw' hw'=>by simp only[RS,hw'.1];exact⟨tV,tV⟩,?_⟩;refine⟨stv (d.old.getD i []),λw' hw'=>?_,?_⟩
   ·refine ag (aX Gu hw'.2 (i:Int) false (z9 _)) ?_;simp only[hget,okV,C8];exact⟨tV,tV⟩
   have hsl:=eP (l:=d.old.getD i []) (i:=Dk.kept f) oM .i64;simp only[RS,hsl];have hE4d:=hE4.drew;refine(jg hE4d (by rw[hln];exact hi1)).mono ?_;rintro _ _ ⟨rfl,rfl⟩;refine⟨⟨hE4.c1,hM.keep (Fm.drew (λ_=>False) w4) id⟩,?_⟩;have hfl:=Dk.flat_len hE4.wf.s1;rw[hln] at hfl ⊢;obtain⟨o',hs,ho,hole⟩:=yN (g:=g) (o:=64*i) (n:=64) (c:=64*d.cur.length - 64*i) (i:=Dk.kept f) hkl oM .i64;simp only[RS,hs];have hxl:((d.old.getD i []).drop (Dk.kept f)).length=64 - Dk.kept f:=by rw[G4];omega
   obtain⟨w5,hr5,hby5,hs5,hf5⟩:=hE4d.by_.tO B44 (o:=o') (n:=64 - Dk.kept f) (x:=(d.old.getD i []).drop (Dk.kept f)) oM (by rw[hfl];omega) (64*d.cur.length - 64*i - Dk.kept f) 3;refine ag hr5 ?_;have hf25:Fm (·=g) w4 w5:=(Fm.drew (λ_=>False) w4).trans hf5 iE iT;have hrow5:BRow w5 g 5 (Dk.mid L d (k+1)).cur.flatten:=by
    rw[hi4];by_cases hk64:Dk.kept f<64
    ·have ho':=ho oM;rw[hxl,ho',(oM:64*i+Dk.kept f+(64 - Dk.kept f)=64*i+64),Dk.flat_lay hE4.wf.s1 (by rw[hln];exact hi1) hkl hxl,hi2] at hby5;exact hby5
    ·have hke:Dk.kept f=64:=oM;have hx0:(d.old.getD i []).drop (Dk.kept f)=[]:=H0 (by rw[hxl];omega);rw[hx0] at hby5;simp only[H1,Ja,Jt,JM] at hby5;have:Dk.torn f (d.cur.getD i []) (d.old.getD i [])=(Dk.mid L d k).cur.getD i []:=by rw[Dk.torn,hx0,hke,H1,hi2,G0 (by rw[h.wf.nE hi1];omega)]
     rw[this];have hset:(Dk.mid L d k).cur.set i ((Dk.mid L d k).cur.getD i [])=(Dk.mid L d k).cur:=by
      apply JI;intro j;rw[Kn];split
      ·rename_i e;subst e;rw[IY (by rw[hln];exact hi1)];exact(Dk.getD_eq (by rw[hln];exact hi1)).symm
      ·rfl
     rw[hset];exact hby5
   have hM5:=hM.keep hf25 (λe=>hE4.gm e.symm);have hst5:=hf25.heap hE4.st hE4.bg;have g4:IntKind.i64.wrap ((k:Int)+1)=((k+1:Nat):Int):=by rw[af]<;>omega
   simp only[RS,g4];refine⟨⟨k+1,rfl,oM,⟨h.wf.mid L (k+1),?_,hrow5,M,hM5,hmem⟩,?_⟩,by simp only[ba];omega⟩
   ·rw[hln] at hst5;rw[Dk.mid_len];exact hst5
   ·exact(hf.trans hF4 (U:=λx=>x=b\/x=g\/x=m) iT iE).trans hf25 iT (λ_ _ e=>.inr (.inl e))
  ·intro kk hkk;have hL2:=hL.fS hF (λhx q hq=>by have:=hLb (λe=>hx (by rw[e];rfl)) q hq;omega);simp only[RS,hL2.lenV];by_cases hkL:k<L.length
   ·have e2:decide ((k:Int)<(L.length:Int))=true:=by simpa using hkL
    have hLk:L[k]?=some L[k]:=C6 hkL;have hin:=hr _ (Jk hkL);generalize L[k]=f at hLk hin;obtain⟨ad2,hix2,_,hc2⟩:=hL2.iS (i:=k) (x:=iv f) (by rw[E4,hLk];rfl) .i64;have hfa:Dk.fate L k=Dk.fold1 f:=by unfold Dk.fate;rw[hLk]
    simp only[RS,e2,hix2,hc2,DL hin,aB,aO,xJ,IW,JF];exact hkk _ _ ⟨by rw[hfa],.inr rfl⟩
   ·have e2:decide ((k:Int)<(L.length:Int))=false:=by simpa using hkL
    have hfa:Dk.fate L k=0:=by unfold Dk.fate;rw[Jc oM]
    simp only[RS,e2];exact hkk _ _ ⟨by rw[hfa],.inl rfl⟩
 ·have hke:k=d.pend.length:=oM;subst hke;have e1:decide ((d.pend.length:Int)<(d.pend.length:Int))=false:=sI;simp only[RS,e1,hE.c1];obtain⟨M,hM,_⟩:=hE.mp;obtain⟨w4,hr4,hM4,hf4,_⟩:=oA Tryz.underlying99 hM 0;refine ag hr4 ?_;have hst4:=hf4.heap hE.st hE.bm;refine au hst4 sI rfl ?_;intro w5 hw5 hs5 hf5;refine au hw5 sI rfl ?_;intro w6 hw6 hs6 hf6;have hlen:(Dk.mended L d).length=d.cur.length:=Dk.mended_len L d;have hby6:=((hE.by_.keep hf4 hE.gm).keep hf5 (λe=>hE.bg e.symm)).keep hf6 (λe=>hE.bg e.symm);rw[Dk.mid_end] at hby6;have hM6:=(hM4.keep hf5 (λe=>hE.bm e.symm)).keep hf6 (λe=>hE.bm e.symm);have hF6:Fm (λx=>x=b\/x=g\/x=m) w w6:=((hF.trans hf4 (U:=λx=>x=b\/x=g\/x=m) iT (λ_ _ e=>.inr (.inr e))).trans hf5 (U:=λx=>x=b\/x=g\/x=m) iT (λ_ _ e=>.inl e)).trans hf6 iT (λ_ _ e=>.inl e);refine⟨tV,⟨h.wf.crash L,?_,hby6,[],hM6,?_⟩,hF6⟩
  ·rw[hln] at hw6;show w6.heap[b]?=some (.cells #[.slice (some ⟨g,0,none⟩) (64*(Dk.mended L d).length) (64*(Dk.mended L d).length),.map (some m),iv 0,.bool false,iv d.done] 101);rw[hlen];exact hw6
  ·intro k x;constructor
   ·intro e;cases e
   ·rintro⟨i,_,hc,_⟩;have:=Dk.isC_rep d.cur.length i;rw[show(d.crash L).chg=List.replicate d.cur.length false from rfl,this] at hc;cases hc
structure DkL where
 o : Nat
 n : Nat
 c : Nat
 co : Nat
 cn : Nat
 cc : Nat
structure DkAt (w : World) (b : Nat) (q : DkL) (d : Dk) : Prop where
 st : w.heap[b]? = some (.cells #[.slice (some ⟨q.o, 0, none⟩) d.old.length q.co, .slice (some ⟨q.n, 0, none⟩) d.cur.length q.cn, .slice (some ⟨q.c, 0, none⟩) d.chg.length q.cc, iv d.armed, .bool d.gone, iv d.done] 93)
 ro : PRow w q.o 9 (d.old.map stv)
 rn : PRow w q.n 9 (d.cur.map stv)
 rc : PRow w q.c 4 (d.chg.map Value.bool)
 ne : b ≠ q.o ∧ b ≠ q.n ∧ b ≠ q.c ∧ q.o ≠ q.n ∧ q.o ≠ q.c ∧ q.n ≠ q.c
section
variable{w:World}{b:Nat}{q:DkL}{d:Dk}(h:DkAt w b q d)
 include h
end
theorem qQ:∀(l:List Int) (a b:Int),a<=b->(∀x∈l,a<=x/\x<b)->l.Pairwise (· < ·)->(l.length:Int)<=b - a
 | [],a,b,hab,_,_=>by simp;omega
 | x::l,a,b,hab,h,hp=>by have hx:=h x sI;rw[List.pairwise_cons] at hp;have:=qQ l (x+1) b oM (λy hy=>⟨by have:=hp.1 y hy;omega,(h y (by simp[hy])).2⟩) hp.2;rw[G2];omega
section
variable{w w':World}{S:Nat->Prop}{b0 lb db:Nat}{v:Value}{L L':Lg}
end
theorem getD_cons(x:Int×Int)(D:List (Int×Int))(m:Int):getD (x::D) m=if x.1=m then some x.2 else getD D m:=by unfold getD;by_cases h:x.1=m<;>simp[h]
section
variable{w w':World}{Q S Y P:Nat->Prop}{b0 pb lb db fb cap:Nat}{q:DkL}{v vT:Value}{F:List PV}{ys:List Value}{s:PS}{p:Pl}
end
section
variable{w0 w w':World}{Y S:Nat->Prop}{pb lb db:Nat}{s:PS}
end
abbrev OpP:=Int×Int×Int×PgT×Unit
section
variable{w w':World}{S:Nat->Prop}{x:Nat}{o:OpP}{u:Value}
end
theorem qS{D D':List (Int×Int)}(h:∀n,getD D n=getD D' n):∀x,x∈D.map (·.1)↔x∈D'.map (·.1):=by
 intro x;have h1:=getD_none (D:=D) (a:=x);have h2:=getD_none (D:=D') (a:=x);rw[h x] at h1;constructor
 ·intro hx;exact G5 λhn=>h1.1 (h2.2 hn) hx
 ·intro hx;exact G5 λhn=>h2.1 (h1.2 hn) hx
theorem nt:∀{D:List (Int×Int)},(D.map (·.1)).Pairwise (· < ·)->∀{i:Nat} {x:Int×Int},D[i]?=some x->getD D x.1=some x.2
 | [],_,i,x,h=>by simp at h
 | y::D,hp,0,x,h=>by simp at h;subst h;rw[getD_cons,IY rfl]
 | y::D,hp,i+1,x,h=>by
  rw[Ji,List.pairwise_cons] at hp;have hx:D[i]?=some x:=by simpa using h
  have:=hp.1 x.1 (E8.2 ⟨x,F7 hx,rfl⟩);rw[getD_cons,IT oM];exact nt hp.2 hx
theorem ri{w:World}{X Q:Nat->Prop}{pb lb db fb ob:Nat}{F:List PV}{p:Pl}(h:PIn w X Q pb lb db fb ob F p){D:List (Int×Int)}(hg:∀n,getD p.owed n=getD D n)(hinc:(D.map (·.1)).Pairwise (· < ·))(hrng:∀x∈D,0<=x.1/\x.1<8192):
  Cl prog 99 [pv pb] w λr w'=>w'.ownsRow w.heap.size 189 2 r D.length (D.flatMap pc2)/\Fm (λ_=>False) w w':=by
 have hM:=h.mp;have hmem:=qS hg;have hsk:gb p.owed=D.map (·.1):=by
  refine Dk.rising_eq ?_ hinc ?_
  ·have h1:(gb p.owed).Pairwise (λx y=>decide (x<=y)=true):=KI (λa b c h1 h2=>by simp at *;omega) (λa b=>by simp;omega) _;have h2:(gb p.owed).Nodup:=by rw[gb];exact(List.mergeSort_perm _ _).nodup_iff.2 hM.keys
   exact(h1.and h2).imp λ⟨h,hn⟩=>by simp at h;omega
  ·intro x;rw[<- hmem];unfold gb;exact List.mem_mergeSort
 have hlen:p.owed.length=D.length:=by have:=IR List.length hsk;rw[gb,List.length_mergeSort,H2,H2] at this;exact this
 have hDl:D.length<=8192:=by have:=qQ (D.map (·.1)) 0 8192 oM (λx hx=>by obtain⟨q,hq,rfl⟩:=E8.1 hx;exact hrng q hq) hinc;rw[H2] at this;omega
 have hwf:∀q∈p.owed,(Lit.int .i64 q.1).wf=true:=by intro q hq;obtain⟨x,hx,e⟩:=E8.1 ((hmem q.1).1 (E8.2 ⟨q,hq,rfl⟩));have:=hrng x hx;show(decide (-9223372036854775808<=q.1)&&decide (q.1<=9223372036854775807))=true;simp;omega
 refine c99 ?_;simp only[RS,h.c5];refine(mi (some ob) w).mono ?_;rintro _ _ ⟨rfl,rfl⟩;refine(jt hM hwf oM).mono ?_;rintro v w2 ⟨h1,_,hF2⟩;rw[hlen,hsk,JG] at h1;have hcA:=CellsAt.aT h1;have z2:=hF2.size;have hlv:=hcA.lenV;simp only[RS,hlv];refine⟨λvs w3=>∃(i:Nat) (u:Value),vs=[u,iv (i:Int)]/\i<=D.length/\w3.ownsRow w2.heap.size 189 2 u i ((D.take i).flatMap pc2)/\Fm (λ_=>False) w2 w3,λvs _=>(D.length - nth vs 1).toNat,⟨0,_,rfl,oM,by simpa using World.ownsRow_nil w2 _ _ _,Fm.refl _ _⟩,?_⟩;rintro _ w3 u ivv ⟨i,_,hvs,hi,ho3,hF3⟩;cases hvs;have h3:=h.aS (Fmf hF2 hF3);by_cases hl:i<D.length
 ·have d1:decide ((i:Int)<(D.length:Int))=true:=by rw[C4];omega
  have e1:IntKind.i64.wrap ((i:Int)+1)=((i+1:Nat):Int):=by rw[af]<;>omega
  have hx:D[i]?=some D[i]:=C6 hl;generalize D[i]=x at hx;have hgx:getD p.owed x.1=some x.2:=by rw[hg];exact nt hinc hx
  obtain⟨ad,q1,_,q2⟩:=(hcA.keep hF3 iT).iS (i:=i) (x:=iv x.1) (by rw[E4,hx];rfl) .i64;simp only[RS,d1,q1,q2,h3.c5];have hlk:=aX FL h3.mp x.1 false (z:=iv 0) kR;rw[hgx] at hlk;refine ag hlk ?_;simp only[okV,C8];refine ag (Ey _ _ _) ?_;refine dk Hp oM 166 (cs:=pc2 x) rfl (Ht _ _ _) (by intro u hu;simp[pc2] at hu;rcases hu with rfl|rfl<;>rfl) ho3 (by unfold maxLen;omega) oM hF3.size ?_;intro u4 w4 ho4 _ hf4;simp only[RS,e1];refine⟨⟨i+1,u4,rfl,oM,?_,Fm.own hF3 hf4 (λy hy=>hy)⟩,by simp only[cK];omega⟩;rw[H8,hx,Jr];simpa using ho4
 ·have hie:i=D.length:=oM;subst hie;have d1:decide (((D.length:Nat):Int)<(D.length:Int))=false:=sI;rw[IX] at ho3;simp only[RS,d1];exact⟨aU ho3 z2,Fmf hF2 hF3⟩
namespace M
abbrev O:=Option
def gd(b:Bool):O Unit:=bif b then some () else none
def idOk(m x:Int):Bool:=decide (1<=x/\x<=m)
def xAdd(m x n:Int):Int:=bif idOk m x then(x - 1+n % m) % m+1 else 0
def xGap(m a b:Int):Int:=bif idOk m a&&idOk m b then(b - a) % m else 0
def xBefore(m a b:Int):Bool:=decide (0<xGap m a b)&&decide (xGap m a b<m / 2)
structure Tu where
 xmin : Int
 xmax : Int
 key : Bs
 val : Bs
def keyOk(k:Bs):Bool:=decide (0<k.length/\k.length<=24)
def tu(t:Tu):Bool:=decide (1<=t.xmin/\t.xmin<=1024/\0<=t.xmax/\t.xmax<=1024/\t.val.length<=64)&&keyOk t.key
def dL(t:Tu):Bs:=eV 1 1++eV t.xmin 2++eV t.xmax 2++(iK t.key++iK t.val)
def deadB(k:Bs):Bs:=bF 4++iK k
def tuRd(s:Bs):Bs×Bs×St2:=((rt 24 (s.drop 5,0)).1,(rt 64 (rt 24 (s.drop 5,0)).2).1,(rt 64 (rt 24 (s.drop 5,0)).2).2)
def fE(s:Bs):O Tu:=bif decide (5<=s.length)&&decide ((s.getD 0 0).toNat=1)&&decide (vz (tuRd s).2.2.1 (tuRd s).2.2.2=0)&&decide (ofN ((s.drop 1).take 2)≠0/\ofN ((s.drop 1).take 2)<=1024/\ofN ((s.drop 3).take 2)<=1024/\(tuRd s).1≠[]) then some ⟨ofN ((s.drop 1).take 2),ofN ((s.drop 3).take 2),(tuRd s).1,(tuRd s).2.1⟩ else none
def tuAt(s:Bs):O (O Tu):=bif decide (s.length<5) then some none else(fE s).map some
structure Ent where
 key : Bs
 page : Int
 slot : Int
 deriving DecidableEq
def ent0:Ent:=⟨[],0,0⟩
def entOk(e:Ent):Bool:=decide (1<=e.key.length/\e.key.length<=24/\0<=e.page/\e.page<=65535/\0<=e.slot/\e.slot<=65535)
def sA(e:Ent):Bs:=iK e.key++(bF e.page++bF e.slot)
def fe(s:Bs):O Ent:=
 let a:=rt 24 (s,0);let b:=rn 65535 a.2;let c:=rn 65535 b.2
 bif decide (vz c.2.1 c.2.2=0)&&entOk ⟨a.1,b.1,c.1⟩ then some ⟨a.1,b.1,c.1⟩ else none
def cmpB:Bs->Bs->Int
 | [],[]=>0
 | [],_::_ => -1
 | _::_,[]=>1
 | x::a,y::b=>bif decide (x.toNat<y.toNat) then -1 else bif decide (y.toNat<x.toNat) then 1 else cmpB a b
def vw(a b:Int):Int:=bif decide (a<b) then -1 else bif decide (b<a) then 1 else 0
def eM(a b:Ent):Int:=bif decide (cmpB a.key b.key≠0) then cmpB a.key b.key else bif decide (vw a.page b.page≠0) then vw a.page b.page else vw a.slot b.slot
def entsGo:Ent->List Bs->O (List Ent)
 | _,[]=>some []
 | p,s::l=>do
  let e <- fe s
  gd (decide (eM p e<0))
  let r <- entsGo e l
  some (e::r)
def ents(l:List Bs):O (List Ent):=match l with
 | []=>some []
 | s::l=>do
  let e <- fe s;let r <- entsGo e l
  some (e::r)
def leafOk(p:Pg):Bool:=decide (pErr p=0)&&decide (p.kind=3/\p.level=0/\p.right=0)&&decide (p.high=[])
def opened(p:Pg):O (List Ent):=do gd (leafOk p);ents p.items
def below(to_ k:Bs):Bool:=decide (to_=[])||decide (cmpB k to_<0)
def hits(p:Pg)(from_ to_:Bs):O (List Ent):=do
 let l <- opened p
 some (l.filter λe=>decide (0<=cmpB e.key from_)&&below to_ e.key)
def bsGo(l:List Ent)(e:Ent):Nat->Nat->Nat->Nat
 | 0,i,_=>i
 | f+1,i,j=>bif decide (i<j) then(bif decide (eM (l.getD ((i+j) / 2) ent0) e<0) then bsGo l e f ((i+j) / 2+1) j else bsGo l e f i ((i+j) / 2)) else i
def spot(l:List Ent)(e:Ent):Nat:=bsGo l e (l.length+1) 0 l.length
def putIt(l:List Bs)(i:Nat)(x:Bs):List Bs:=l.take i++[x]++l.drop i
def fitsP(p:Pg):O Pg:=do gd (eU p);some p
def notAt(l:List Ent)(e:Ent)(i:Nat):Bool:=match l[i]? with
 | some x=>!(decide (eM x e=0))
 | none=>true
def nodeIn(p:Pg)(e:Ent):O Pg:=do
 let l <- opened p
 gd (entOk e&&notAt l e (spot l e))
 fitsP { p with items:=putIt p.items (spot l e) (sA e) }
def blay(p:Pg)(item:Bs):O Pg:=do
 let e <- fe item;let l <- opened p
 gd (!(decide (e∈l)))
 nodeIn p e
def slotOf(p:Pg):O Nat:=do gd (p.items.all λs=>!(decide (s=[])));some p.items.length
def heapPut(p:Pg)(s:Bs):O Pg:=fitsP { p with items:=p.items++[s] }
def heapWith(p:Pg)(i:Nat)(s:Bs):O Pg:=fitsP { p with items:=p.items.set i s }
def roomOf(p:Pg):O Int:=do
 let n <- slotOf p
 gd (decide (n<255)&&decide (bp p<=510))
 some (510 - bp p:Nat)
def itemAt(p:Pg)(i:Int):O Bs:=do gd (decide (0<=i));p.items[i.toNat]?
def it0(p:Pg):Bs:=p.items.getD 0 []
def it1(p:Pg):Bs:=p.items.getD 1 []
def Fp(m:Int)(p:Pg):Bool:=decide (p.kind=1/\0<=p.lsn/\p.level=0/\p.right=0/\p.items.length=2/\((it1 p).length:Int)=m / 4/\m % 4=0)&&decide (p.high=[])&&decide (rdNum m (it0 p) 0=(1,[],0))
def plN(x:Int):Nat:=(x - 1).toNat
def oQ(x:Int):Nat:=2*(plN x % 4)
def IM(b:Bs)(x:Int):Int:=vG .u8 (((b.getD (plN x / 4) 0).toNat:Int).fdiv (2 ^ (min (oQ x) 8))) 3
def pbyte(c:UInt8)(s:Int)(far:Nat):UInt8:=UInt8.ofNat (orI .u8 (jT .u8 c.toNat (IntKind.u8.wrap (3*2 ^ far))) (IntKind.u8.wrap (s*2 ^ far))).toNat
def clogGet(m:Int)(p:Pg)(x:Int):O Int:=do gd (Fp m p&&idOk m x);some (IM (it1 p) x)
def clogSet(m:Int)(p:Pg)(x:Int)(s:Int):O Pg:=do
 gd (Fp m p&&idOk m x)
 some ⟨p.lsn,1,0,0,[],[bF 1,(it1 p).set (plN x / 4) (pbyte ((it1 p).getD (plN x / 4) 0) s (oQ x))]⟩
def clogNew(m:Int):Pg:=⟨0,1,0,0,[],[bF 1,aG (m / 4).toNat]⟩
structure Vw where
 m : Int
 next : Int
 act : List Int
 own : Int
 run : List Int
 st : Pg
def status(v:Vw)(x:Int):O Int:=bif decide (x∈v.run) then some 1 else clogGet v.m v.st x
def sees(v:Vw)(x:Int):O Bool:=bif decide (x=0) then some false else bif decide (x=v.own) then some true else bif decide (x∈v.act)||!(xBefore v.m x v.next) then some false else(status v x).map λs=>decide (s=2)
def visible(v:Vw)(t:Tu):O Bool:=do
 let a <- sees v t.xmin
 bif a then(sees v t.xmax).map (!·) else some false
def unseen(v:Vw)(x:Int):O Bool:=bif decide (x=0) then some false else do
 let a <- sees v x
 bif a then some false else(status v x).map λs=>decide (s=2)
def newer(v:Vw)(t:Tu):O Bool:=do
 let a <- unseen v t.xmin
 bif a then some true else unseen v t.xmax
def rec0:Rc:=⟨0,0,0,0,0,0,0,0,0,0,[],[],[],[],[],[]⟩
def turn(p:Pg)(i:Int)(was now:Int):O Pg:=do
 let s <- itemAt p i;let t <- fE s
 gd (decide (t.xmax=was)&&tu { t with xmax:=now })
 heapWith p i.toNat (dL { t with xmax:=now })
def deed(m:Int)(p:Pg)(r:Rc):O Pg:=match r.kind with
 | 1=>do
  let t <- fE r.data
  gd (decide (r.slot=p.items.length))
  heapPut p r.data
 | 2=>turn p r.slot r.old r.new
 | 3=>do
  let e <- fe r.data
  nodeIn p e
 | 6=>bif decide (r.old≠0)||decide (r.new≠0) then turn p r.slot r.old r.new else do
  let s <- itemAt p r.slot;let t <- fE s
  heapWith p r.slot.toNat (deadB t.key)
 | 7=>clogSet m p r.xid 2
 | 8=>clogSet m p r.xid 3
 | _=>none
def dkB(k:Int):Bool:=decide (k=1\/k=2\/k=3\/k=6\/k=7\/k=8)
def touch(r:Rc):O Int:=match r.imgs with
 | []=>do gd (dkB r.kind);some r.page
 | [x]=>do gd (decide (r.kind=13)||(dkB r.kind&&decide (r.page=x.1)));some x.1
 | _=>none
def smP(p:Pg):Bool:=decide (p.items.length<=255)&&p.items.all λs=>decide (s.length<=1000)
def inL(z:Int):Bool:=decide (0<=z/\z<1000000000)
def doRec(m:Int)(p:Pg)(n:Int)(r:Rc):O Pg:=match r.imgs with
 | [x]=>do gd (decide (x.1=n)&&smP x.2&&inL r.lsn);some { x.2 with lsn:=r.lsn }
 | []=>do
  gd (decide (p.lsn<r.lsn)&&decide (n=r.page)&&decide (r.data.length<=1000)&&inL r.lsn)
  let q <- deed m p r
  some { q with lsn:=r.lsn }
 | _=>none
def undoes(r:Rc):Bool:=decide (r.kind=1)||decide (r.kind=2)
def back(r:Rc):O Rc:=match r.kind with
 | 1=>some { rec0 with kind:=6,xid:=r.xid,page:=r.page,slot:=r.slot,next:=r.prev }
 | 2=>some { rec0 with kind:=6,xid:=r.xid,page:=r.page,slot:=r.slot,next:=r.prev,old:=r.new,new:=r.old }
 | _=>none
structure Ak where
 call : Int
 key : Bs
 to_ : Bs
 val : Bs
 n : Int
structure Rp where
 err : Int
 found : Bool
 val : Bs
 rows : List (Bs × Bs)
def ak0:Ak:=⟨0,[],[],[],0⟩
def rp0:Rp:=⟨0,false,[],[]⟩
structure Pn where
 ask : Ak
 own : Int
 wk : Int
 wkey : Bs
 wsz : Int
 wpg : Int
 stg : Nat
 rep : Rp
 rows : List (Bs × Bs)
 seen : Int
 left : List Ent
 hit : Bool
 one : Ent
 ent : Ent
 item : Bs
def writes(a:Ak):Bool:=decide (a.call=3)||decide (a.call=4)
def rightA(a:Ak)(own:Int):Bool:=bif decide (a.call=3) then keyOk a.key&&decide (a.val.length<=64)&&decide (0<own) else bif decide (a.call=4) then keyOk a.key&&decide (0<own) else decide (a.call=5)&&decide (a.key.length<=24/\a.to_.length<=24/\0<a.n/\a.n<=16)
def pn0(a:Ak)(own:Int):Pn:=⟨a,own,0,[],0,0,0,rp0,[],0,[],false,ent0,ent0,[]⟩
def see(p:Pn)(n:Int)(s:Nat):Pn:={ p with wk:=3,wkey:=[],wsz:=0,wpg:=n,stg:=s }
def fin(p:Pn)(r:Rp):Pn:={ p with wk:=4,wkey:=[],wsz:=0,wpg:=0,stg:=0,rep:=r }
def look(p:Pn):Pn:=see { p with seen:=0 } 1 216
def mkP(a:Ak)(own:Int):O Pn:=do
 gd (rightA a own)
 some (bif writes a then { pn0 a own with wk:=1,wkey:=a.key } else look (pn0 a own))
def version(p:Pn):Tu:=⟨p.own,0,p.ask.key,p.ask.val⟩
def write(p:Pn):O Pn:=bif decide (p.ask.call=4) then some (fin p { rp0 with found:=p.hit }) else do
 gd (tu (version p))
 some { p with stg:=0,wk:=2,wkey:=[],wsz:=((dL (version p)).length:Int),wpg:=0 }
def next(p:Pn):O Pn:=match p.left with
 | e::_=>some (see p e.page 408)
 | []=>bif !(writes p.ask) then some (fin p { rp0 with rows:=p.rows }) else bif p.hit then some (see p p.one.page 409) else write p
def descend(p:Pn)(b:Pg):O Pn:=do
 gd (decide (p.ask.key.length<=24)&&decide (0<=p.seen/\p.seen<4000))
 let l <- opened b;let h <- hits b p.ask.key (bif decide (p.ask.call=5) then p.ask.to_ else p.ask.key++[0])
 next { p with seen:=p.seen+1,left:=h }
def inspect(v:Vw)(p:Pn)(b:Pg):O Pn:=match p.left with
 | []=>none
 | e::l=>do
  gd (decide (b.kind=2)&&decide (p.rows.length<=1000))
  let s <- itemAt b e.slot;let t <- tuAt s;let p:={ p with left:=l }
  match t with
  | none=>next p
  | some t=>do
   gd (decide (t.key=e.key))
   let sn <- visible v t;let nw <- bif writes p.ask then newer v t else some false
   bif nw then some (fin p { rp0 with err:=180 }) else
   bif !sn then next p else
   bif writes p.ask then next { p with hit:=true,one:=e } else
   (do
    gd (decide (p.ask.call=5)&&p.rep.rows.isEmpty)
    let q:={ p with rows:=p.rows++[(t.key,t.val)] }
    bif decide ((q.rows.length:Int)=p.ask.n) then some (fin q { rp0 with rows:=q.rows }) else next q)
def finish(p:Pn)(b:Pg):O (Pn×Rc):=do
 gd (decide (b.kind=2))
 let s <- itemAt b p.one.slot;let t <- fE s
 gd (decide (1<=p.own)&&!(decide (p.own=t.xmax))&&tu { t with xmax:=p.own })
 let q <- heapWith b p.one.slot.toNat (dL { t with xmax:=p.own });let r:={ rec0 with kind:=2,xid:=p.own,page:=p.wpg,slot:=p.one.slot,old:=t.xmax,new:=p.own };let p <- write p
 some (p,r)
def layP(p:Pn)(b:Pg):O (Pn×Rc):=do
 gd (decide (b.kind=2)&&tu (version p))
 let n <- slotOf b;let q <- heapPut b (dL (version p));let e:Ent:=⟨p.ask.key,p.wpg,n⟩
 gd (entOk e)
 some (see { p with ent:=e,item:=sA e,seen:=0 } 1 362,{ rec0 with kind:=1,xid:=p.own,page:=p.wpg,slot:=n,data:=dL (version p) })
def enter(p:Pn)(b:Pg):O (Pn×Rc):=do
 gd (entOk p.ent&&decide (0<=p.seen/\p.seen<4000)&&decide (p.item.length<=1000))
 let q <- blay b p.item
 some (fin { p with seen:=p.seen+1 } { rp0 with found:=p.hit },{ rec0 with kind:=3,xid:=p.own,page:=p.wpg,data:=p.item })
def pageP(v:Vw)(p:Pn)(b:Pg):O (Pn×O Rc):=bif !(smP b&&(decide (p.stg=362)||p.item.isEmpty)) then none else match p.stg with
 | 216=>(descend p b).map (·,none)
 | 408=>(inspect v p b).map (·,none)
 | 409=>(finish p b).map λx=>(x.1,some x.2)
 | 302=>(layP p b).map λx=>(x.1,some x.2)
 | 362=>(enter p b).map λx=>(x.1,some x.2)
 | _=>none
structure Tx where
 next : Int
 act : List Int
 xid : Int
 first : Int
 last : Int
 undoes : Int
def insI(x:Int):List Int->List Int
 | []=>[x]
 | y::l=>bif decide (x<=y) then x::y::l else y::insI x l
def running(l:List (Int×Tx)):List Int:=(l.filterMap λp=>bif decide (p.2.xid=0) then none else some p.2.xid).foldr insI []
def logged(l:List (Int×Tx))(who at_:Int)(u:Bool):O (List (Int×Tx)):=do
 let t <- getD l who
 gd (!(decide (t.xid=0))&&decide (t.last<at_)&&decide (0<=t.undoes/\t.undoes<1000000))
 some (cM l who { t with last:=at_,first:=bif decide (t.first=0) then at_ else t.first,undoes:=bif u then t.undoes+1 else t.undoes })
inductive Wk
 | none | begin | follow | commit | settle | roll
structure Seat where
 ask : Ak
 wk : Wk
 told : Bool
 rep : Rp
 plan : O Pn
 why : Int
 next : Int
 end_ : Int
def seat0:Seat:=⟨ak0,.none,false,rp0,none,0,0,0⟩
structure E where
 s : PS
 m : Int
 pages : Int
 st : Pg
 holds : List (Bs × Int)
 waits : List (Int × Bs)
 txns : List (Int × Tx)
 nxt : Int
 room : O Int
 fresh : Int
 kept : Bool
 seats : List Seat
 pick : Int
 phase : Nat
 recs : List Rc
 met : List Int
 saves : List Int
 at_ : Int
def lg(e:E)(l:Lg):E:={ e with s:={ e.s with l:=l } }
def reserve(e:E)(n:Int):O E:=do gd (decide ((e.s.l.reserve n).2=0));some (lg e (e.s.l.reserve n).1)
def release(e:E)(n:Int):O E:=do gd (decide ((e.s.l.release n).2=0));some (lg e (e.s.l.release n).1)
def fetch(e:E)(n:Int):O (E×Pg):=do
 let r:=e.s.fetch n e.pick
 gd (decide (r.2.2=0)&&smP r.2.1)
 some ({ e with s:=r.1 },r.2.1)
def lay(e:E)(n:Int)(p:Pg):O E:=do
 let r:=e.s.set n p e.pick
 gd (decide (r.2=0))
 let rm <- bif decide (p.kind=2) then(do gd (decide (n=2));(roomOf p).map some) else some e.room
 some { e with s:=r.1,st:=bif decide (n=0) then p else e.st,room:=rm }
def behind(e:E)(r:Rc)(n:Int):O (E×Rc×Pg):=match r.imgs with
 | [x]=>(doRec e.m pg0 n { r with imgs:=[(x.1,{ x.2 with lsn:=r.lsn })] }).map λq=>(e,{ r with imgs:=[(x.1,{ x.2 with lsn:=r.lsn })] },q)
 | []=>do
  let (e,p) <- fetch e n;let q <- doRec e.m p n r
  some (e,bif (!(getD e.s.p.owed n).isNone) then r else { r with imgs:=[(n,q)] },q)
 | _=>none
def inZ(z:Int):Bool:=decide (-1000000000000<=z/\z<=1000000000000)
def rcB(r:Rc):Bool:=(rNums r).all inZ&&decide (0<=r.kind/\r.kind<=255/\r.data.length<=1000/\r.imgs.length<=1)&&decide (r.slots=[]/\r.more=[]/\r.pages=[]/\r.txns=[])&&r.imgs.all λx=>decide (x.2.lsn<=1000000000000)
def wr(e:E)(who:Int)(r:Rc)(free:Int):O E:=do
 let t <- getD e.txns who;let op:=decide (0<r.xid)&&decide (t.xid=r.xid);let r:={ r with prev:=bif op then t.last else r.prev,lsn:=(e.s.l.tail:Int) };let n <- touch r;let (e,r,q) <- behind e r n
 gd (decide ((e.s.l.tail:Int)=r.lsn)&&rcB r)
 let e <- bif undoes r then reserve e 700 else some e
 let e <- release e free;let a:=e.s.l.append r
 gd (decide (a.2.2=0))
 let e:=lg e a.1;let tx <- bif op then logged e.txns who a.2.1 (undoes r) else some e.txns
 lay { e with txns:=tx } n q
def xids(l:List (Int×Tx)):List Int:=l.filterMap λp=>bif decide (p.2.xid=0) then none else some p.2.xid
def fewT(l:List (Int×Tx)):Bool:=decide (l.length<=12)&&decide ((xids l).Nodup)
def view(e:E)(who:Int):O Vw:=do
 gd (fewT e.txns&&smP e.st)
 let t <- getD e.txns who
 some ⟨e.m,t.next,t.act,t.xid,running e.txns,e.st⟩
def seatAt(e:E)(i:Nat):Seat:=e.seats.getD i seat0
def setSeat(e:E)(i:Nat)(s:Seat):E:={ e with seats:=e.seats.set i s }
def say(e:E)(i:Nat)(r:Rp):E:=setSeat e i { seat0 with told:=true,rep:=r }
def ask(e:E)(i:Nat)(a:Ak):O E:=match (seatAt e i).wk with
 | .none=>some (setSeat e i { seat0 with ask:=a,wk:=.begin })
 | _=>none
def letGo(e:E)(who:Int):E:={ e with holds:=e.holds.filter λx=>!(decide (x.2=who)),waits:=e.waits.filter λx=>!(decide (x.1=who))&&!(decide (getD e.holds x.2=some who)) }
def close(e:E)(i:Nat)(n:Int):O E:=do
 let t <- getD e.txns (i:Int)
 gd (decide (e.waits.length<=100)&&decide (0<=n/\n<=1000000))
 let e <- release { e with txns:=cO e.txns (i:Int) } (700*n)
 some (letGo e i)
def modPlan(e:E)(i:Nat)(p:Pn):E:=setSeat e i { seatAt e i with plan:=some p }
def show_(e:E)(i:Nat)(p:Pn):O E:=do
 let (e,b) <- fetch e p.wpg;let v <- view e i;let (p,r) <- pageP v p b
 match r with
 | none=>some (modPlan e i p)
 | some r=>do
  let e <- wr (modPlan e i p) i r 0
  gd (inZ e.fresh)
  some e
def roomFor(e:E)(i:Nat)(n:Int):O (E×Int):=match e.room with
 | some x=>do gd (decide (n<=x));some (e,2)
 | none=>do
  gd (decide (e.fresh=2)&&decide (2<e.pages))
  let t <- getD e.txns (i:Int);let e <- wr e i { rec0 with kind:=13,xid:=t.xid,imgs:=[(2,{ pg0 with kind:=2 })] } 0
  gd (inZ e.fresh)
  some ({ e with fresh:=e.fresh+1 },2)
def ringsM(H:List (Bs×Int))(W:List (Int×Bs))(who:Int):Nat->Int->O Bool
 | 0,_=>none
 | f+1,a=>bif decide (a=who) then some true else match getD W a with
  | none=>some false
  | some k=>match getD H k with
   | none=>none
   | some q=>ringsM H W who f q
def tryK(e:E)(who:Int)(k:Bs):O (E×Nat):=
 let W:=cO e.waits who;let h:=(getD e.holds k).getD who
 bif decide (h=who) then some ({ e with holds:=cM e.holds k who,waits:=W },0) else do
  let r <- ringsM e.holds W who 9 h
  bif r then some ({ e with waits:=W },2) else some ({ e with waits:=cM W who k },1)
def ended(e:E)(i:Nat):O E:=do
 let p <- (seatAt e i).plan
 bif decide (p.wk=4) then
  (bif decide (p.rep.err=0) then(do gd (decide (p.rep.rows.length<=1000));some (say e i p.rep)) else do
   gd (!(decide ((seatAt e i).ask.call=2))&&!(decide ((seatAt e i).ask.call=5))&&decide (p.rep.rows.length<=1000))
   let t <- getD e.txns (i:Int)
   some (setSeat e i { seatAt e i with wk:=.roll,why:=p.rep.err,next:=t.last }))
 else some e
def follow(e:E)(i:Nat):O E:=do
 gd (seatAt e i).rep.rows.isEmpty
 let p <- (seatAt e i).plan;let e <- (match p.wk with
  | 1=>do
   let (e,r) <- tryK e i p.wkey
   some (modPlan e i (match r with
    | 0=>look p
    | 1=>p
    | _=>fin p { rp0 with err:=181 }))
  | 2=>do
   let (e,n) <- roomFor e i p.wsz
   show_ (modPlan e i (see p n 302)) i (see p n 302)
  | 3=>show_ e i p
  | _=>none:O E)
 ended e i
def commit(e:E)(i:Nat):O E:=do
 let t <- getD e.txns (i:Int)
 wr (setSeat e i { seatAt e i with wk:=.settle,end_:=(e.s.l.tail:Int) }) i { rec0 with kind:=7,xid:=t.xid } 700
def flush(e:E)(to_:Int):O E:=bif decide (to_<(e.s.l.last:Int)) then some e else do
 let r:=e.s.l.flush to_ e.s.d
 gd (decide (r.2.2=0))
 some { e with s:=⟨e.s.p.synced,r.1,r.2.1⟩ }
def settle(e:E)(i:Nat):O E:=do
 let e <- flush e (seatAt e i).end_;let t <- getD e.txns (i:Int);let e <- close e i t.undoes
 some (say e i rp0)
def chain(e:E):Nat->Int->O (Int×O Rc)
 | 0,_=>none
 | f+1,at_=>bif decide (at_<=0) then some (at_,none) else do
  let r <- getD e.s.l.recs at_
  match back r with
  | some u=>some (at_,some u)
  | none=>do
   gd (decide (r.prev<at_))
   chain e f r.prev
def roll(e:E)(i:Nat):O E:=do
 let t <- getD e.txns (i:Int);let (a,c) <- chain e 100 (seatAt e i).next
 match c with
 | some u=>wr (setSeat e i { seatAt e i with next:=u.next }) i { u with new:=0 } 700
 | none=>do
  let e:=setSeat e i { seatAt e i with next:=a };let e <- bif decide (t.last=0) then release e 700 else wr e i { rec0 with kind:=8,xid:=t.xid } 700
  let e <- close e i 0
  some (say e i { rp0 with err:=(seatAt e i).why })
def begin(e:E)(i:Nat):O E:=
 let a:=(seatAt e i).ask
 match a.call with
 | 1=>do
  gd ((getD e.txns (i:Int)).isNone&&fewT e.txns)
  some (say { e with txns:=cM e.txns (i:Int) ⟨e.nxt,running e.txns,0,0,0,0⟩ } i rp0)
 | 6=>do
  let t <- getD e.txns (i:Int)
  bif decide (t.last=0) then(do
   gd (decide (t.xid=0))
   let e <- close e i 0
   some (say e i rp0))
  else commit (setSeat e i { seatAt e i with next:=t.last,wk:=.commit }) i
 | 7=>do
  let t <- getD e.txns (i:Int)
  gd (!(decide (t.last=0)))
  roll (setSeat e i { seatAt e i with next:=t.last,wk:=.roll }) i
 | _=>do
  let t <- getD e.txns (i:Int);let (e,x) <- (bif writes a&&decide (t.xid=0) then(do
   gd (rightA a 1&&decide (0<e.m / 2 - 2 - xGap e.m 1 e.nxt)&&!(decide (e.nxt∈running e.txns))&&fewT e.txns)
   let e <- reserve e 700
   some ({ e with nxt:=xAdd e.m e.nxt 1,txns:=cM e.txns (i:Int) { t with xid:=e.nxt } },e.nxt)) else some (e,t.xid):O (E×Int))
  let p <- mkP a x
  follow (setSeat e i { seatAt e i with plan:=some p,wk:=.follow }) i
def stepM(e:E)(i:Nat):O E:=match (seatAt e i).wk with
 | .begin=>begin e i
 | .follow=>follow e i
 | .commit=>commit e i
 | .settle=>settle e i
 | .roll=>roll e i
 | .none=>none
def goes(e:E)(i:Nat):Bool:=(match (seatAt e i).wk with
 | .none=>false
 | _=>true)&&(getD e.waits (i:Int)).isNone
def runnable(e:E):List Nat:=(List.range 8).filter (goes e)
def redo(e:E):O E:=match e.recs with
 | []=>(fetch e 0).map λx=>{ x.1 with st:=x.2,phase:=1 }
 | r::l=>do
  let n <- touch r;let e:={ e with recs:=l,met:=bif r.imgs.isEmpty||decide (n∈e.met) then e.met else n::e.met }
  gd (decide (n∈e.met))
  let (e,p) <- (bif r.imgs.isEmpty then fetch e n else some (e,pg0):O (E×Pg));let q <- doRec e.m p n r
  lay e n q
def phaseM(e:E):O E:=match e.phase with
 | 0=>redo e
 | 1=>some { e with phase:=2 }
 | 2=>do
  let l:=(e.s.p.owed.map (·.1)).foldr insI []
  gd (decide (0<=e.at_)&&decide (l.Pairwise (· < ·))&&l.all λn=>decide (0<=n/\n<8192))
  some { e with phase:=3,saves:=l }
 | 3=>(match e.saves with
  | n::l=>do
   let r:=e.s.write n
   gd (decide (r.2=0))
   some { e with s:=r.1,saves:=l }
  | []=>do
   let r:=e.s.d.sync
   gd (decide (r.2=0))
   some { e with s:=⟨e.s.p.synced,e.s.l,r.1⟩,phase:=4,at_:=2 })
 | 4=>bif decide (e.fresh<=e.at_) then(do
   let e <- reserve e 1500
   some { e with kept:=true,phase:=5 })
  else do
   gd (decide (e.at_=2))
   let (e,p) <- fetch { e with at_:=3 } 2
   gd (decide (p.kind=2))
   let x <- roomOf p
   some { e with room:=some x }
 | _=>none
def readyGo:Nat->Int->E->O E
 | 0,_,_=>none
 | f+1,k,e=>bif decide (e.phase=5) then some e else do
  let e <- phaseM { e with pick:=k }
  readyGo f (k+1) e
structure Ctl where
 frames : Int
 m : Int
 secs : Int
 pages : Int
def xL(r:Rc):Bool:=(decide (r.kind=1)||decide (r.kind=2)||decide (r.kind=6)||decide (r.kind=7)||decide (r.kind=8))&&decide (0<r.xid)
def findX(m:Int):List Rc->Int->Int
 | [],x=>x
 | r::l,x=>findX m l (bif xL r&&!(xBefore m r.xid x) then xAdd m r.xid 1 else x)
def findP:List Rc->Int->Int
 | [],n=>n
 | r::l,n=>findP l (r.imgs.foldl (λn x=>bif decide (n<x.1+1) then x.1+1 else n) n)
def kL:List Rc->List (Int×Int)->List (Int×Int)
 | [],l=>l
 | r::rs,l=>kL rs (bif !(xL r) then l else bif decide (r.kind=7)||decide (r.kind=8) then cO l r.xid else cM l r.xid (bif decide (r.kind=6) then r.next else r.lsn))
def iM(c:Ctl):Bs:=beN 4 1++(beN 4 c.frames.toNat++(beN 4 c.m.toNat++(beN 4 c.secs.toNat++(beN 4 c.pages.toNat++(beN 6 1++(beN 6 0++(aG 28++beN 4 1)))))))
def sectors(c:Ctl):Int:=2+c.secs+8*c.pages
def okD(r:Dk×Int):O Dk:=do gd (decide (r.2=0));some r.1
def formatM(c:Ctl):O Dk:=do
 let d <- okD ((Dk.mk0 (sectors c).toNat).write 0 (aG 128));let d <- okD (d.write (2+c.secs) ((pEnc (clogNew c.m)).1++(pEnc { pg0 with kind:=3 }).1));let d <- okD (zt d 2 c.secs);let d <- okD d.sync;let d <- okD (d.write 1 (iM c))
 okD d.sync
def openM(d:Dk)(c:Ctl):O E:=do
 gd (decide (sectors c<=(d.cur.length:Nat))&&!d.gone)
 gd (decide (d.read 0 2=(aG 64++iM c,0)))
 let r:=mu d 2 c.secs 1
 gd (decide (r.2=0))
 let L:=oc d 2 c.secs.toNat 1;let rs:=(sS d 2 c.secs.toNat 1).1
 gd (kL rs []).isEmpty
 gd (rs.all λr=>decide (r.kind≠12)&&decide (r.kind≠11)&&decide (1<=r.lsn)&&r.imgs.all λx=>decide (0<=x.1/\x.1<=65535))
 gd (decide ((L.reserve 0).2=0))
 let L:=(L.reserve 0).1;let x:=findX c.m rs 1
 gd (decide (xGap c.m 1 x<=c.m / 2 - 2)&&decide (1<=x/\x<=c.m))
 let p:=uq (2+c.secs) c.pages c.frames
 some ⟨⟨p,L,r.1⟩,c.m,c.pages,pg0,[],[],[],x,none,findP rs 2,false,List.replicate 8 seat0,0,0,rs,[],[],0⟩
def opensM(d:Dk)(c:Ctl):O E:=do
 let e <- openM d c
 readyGo 60 0 e
def replyM(e:E)(i:Nat):O (E×Rp):=bif (seatAt e i).told then some (setSeat e i { seatAt e i with told:=false,rep:=rp0 },(seatAt e i).rep) else none
def runN(e:E)(n k:Int):O E:=match (runnable e)[ga (runnable e).length n]? with
 | some i=>stepM { e with pick:=k } i
 | none=>none
def runM(e:E)(k:Int):O E:=match runnable e with
 | i::_=>stepM { e with pick:=k } i
 | []=>none
def aloneGo(i:Nat):Nat->Int->E->O (E×Rp)
 | 0,_,_=>none
 | f+1,k,e=>match replyM e i with
  | some r=>some r
  | none=>do
   let e <- runM e k
   aloneGo i f (k+1) e
def alone(e:E)(i:Nat)(a:Ak):O (E×Rp):=do
 let e <- ask e i a
 aloneGo i 40 0 e
def okR(r:E×Rp):O E:=do gd (decide (r.2.err=0));some r.1
def beginM(c:Ctl):O E:=do
 let d <- formatM c
 opensM d c
def aw(n:Int):Ak:={ ak0 with call:=n }
def putA(k v:Bs):Ak:={ ak0 with call:=3,key:=k,val:=v }
def awake1(e:E):O E:=do
 let e <- (alone e 0 (aw 1)).bind okR;let e <- (alone e 0 (putA [97] [49])).bind okR;let e <- (alone e 0 (putA [98] [50])).bind okR
 (alone e 0 (aw 6)).bind okR
def ctlA:Ctl:=⟨4,16,200,10⟩
def awake2:O E:=do
 let e <- beginM ctlA;let e <- awake1 e;let e <- awake1 e;let e <- (alone e 1 (aw 1)).bind okR
 (alone e 1 { ak0 with call:=4,key:=[97] }).bind okR
def awake3:O (E×Rp):=do
 let e <- awake2;let e <- opensM (e.s.d.crash []) ctlA;let e <- (alone e 2 (aw 1)).bind okR
 alone e 2 { ak0 with call:=5,n:=16 }
def awakeM:Bool:=match awake3 with
 | some (e,r)=>decide (r.err=0)&&decide (r.rows=[([97],[49]),([98],[50])])&&(match (alone e 2 (aw 6)).bind okR with
  | some _=>true
  | none=>false)
 | none=>false
def ctlP:Ctl:=⟨5,32,3000,40⟩
def kb(s n:Nat):Bs:=[UInt8.ofNat (97+s % n)]
def rings1(n:Nat):Nat->Nat->E->O E
 | 0,_,e=>some e
 | f+1,s,e=>do
  let e <- (alone e s (aw 1)).bind okR;let e <- (alone e s (putA (kb s n) [49])).bind okR
  rings1 n f (s+1) e
def rings2(n:Nat):Nat->Nat->E->O E
 | 0,_,e=>some e
 | f+1,s,e=>do
  let e <- ask e s (putA (kb (s+1) n) [50])
  rings2 n f (s+1) e
structure Rg where
 e : E
 st : List Int
 ref : Int
 end_ : Int
def repGo(n:Nat):Nat->Nat->Rg->O Rg
 | 0,_,g=>some g
 | f+1,s,g=>match replyM g.e s with
  | none=>repGo n f (s+1) g
  | some (e,r)=>bif decide (g.st.getD s 9=0)&&decide (r.err=0) then(do
    let e <- ask e s (aw 7)
    repGo n f (s+1) ⟨e,g.st.set s 1,g.ref,g.end_⟩)
   else bif decide (g.st.getD s 9=0)&&decide (r.err=181) then repGo n f (s+1) ⟨e,g.st.set s 2,g.ref+1,g.end_+1⟩
   else bif decide (g.st.getD s 9=1)&&decide (r.err=0) then repGo n f (s+1) ⟨e,g.st.set s 2,g.ref,g.end_+1⟩
   else none
def roundM(n:Nat)(g:Rg)(p k:Int):O Rg:=do
 let e <- runN g.e p k
 repGo n n 0 { g with e:=e }
end M
open Go.Proofs.Tryz
attribute [local irreducible] World.drew undef aC aL bj bO faV ixV ixS ixA aW cr ixG unV cvI cvS slS slV lenV bW cy aR aQ aO aB isB Instr.build Instr.buildSlice Instr.lookup Instr.mapUpdate Instr.range Instr.next Instr.entry Instr.makeMap Instr.makeSlice convert binOp Instr.sliceAt Instr.makeInterface Builtin.append_ Builtin.copy_ Builtin.delete_ Builtin.clear_ Builtin.len_ Builtin.cap_ Value.cells
theorem bsl{s:Sem Value}{w:World}{k:KV}(n:Nat)(cs:Array Value)(e:TypeId)(hk:k (.slice (some ⟨w.heap.size,0,none⟩) n n) (w.alloc (.cells cs e)))(h:s.run prog w=.ok (.slice (some ⟨w.heap.size,0,none⟩) n n) (w.alloc (.cells cs e)):=by kernel_rfl):RunS prog s w k:=ag h hk
theorem bst{s:Sem Value}{w:World}{k:KV}(cs:Array Value)(hk:k (.agg cs) w)(h:s.run prog w=.ok (.agg cs) w:=by kernel_rfl):RunS prog s w k:=ag h hk
theorem rdP{C:World->Prop}{r:World->Option Value}{u:Value}{p:Value->Prop}(h:∀w',C w'->r w'=some u)(hk:p u):∃v,(∀w',C w'->Pu (r w') λx=>x=v/\True)/\p v:=⟨u,λw' hw=>by rw[h w' hw,bB];exact⟨rfl,trivial⟩,hk⟩
theorem bK(n w:Int):(eV n w).length<=8:=by
 unfold eV;by_cases h:8<w
 ·simp[h]
 ·cases decide (w<1)||decide (8<w)||decide (n<0)<;>simp[aH];omega
theorem ao{w:World}{b n:Nat}{cs us:Array Value}{t:TypeId}{k:KV}(hb:w.heap[b]?=some (.cells cs t))(h:∀w',w'.heap[b]?=some (.cells us t)->w'.heap.size=w.heap.size->Fm (·=b) w w'->k undef w')(hn:us.size=n:=by rfl)(hc:cs.size=n:=by rfl)(hu:us.toList.all Value.oneCell'=true:=by rfl):St n w (pv b) (.agg us) k:=by refine bZ hb hn oM (G8.1 hu) λw' h1 h2 h3=>h w' ?_ h2 h3;rw[h1,uz _ _ _ (by rw[I8];omega),List.take_zero,H9,J8 (by rw[I8,I8];omega),H1]
theorem aD{w:World}{n:Nat}{zs us:Array Value}{t:TypeId}{k:KV}(h:∀w',w'.heap.size=w.heap.size+1->w'.heap[w.heap.size]?=some (.cells us t)->Fm F0 w w'->k (pv w.heap.size) w')(hn:us.size=n:=by rfl)(hc:zs.size=n:=by rfl)(hu:us.toList.all Value.oneCell'=true:=by rfl):New zs t w λp w1=>St n w1 p (.agg us) λ_ w2=>k p w2:=by refine ae ?_;rintro b w1 rfl hs hw hf;exact ao hw (λw2 h1 h2 h3=>h w2 oM h1 (Fm.own hf h3 (by rintro x rfl;exact D9 _))) hn hc hu
theorem qZ{w:World}{base:Nat}{e:TypeId}{v:Value}{n:Nat}{xs:List Value}(h:w.ownsRow base e 1 v n xs){i:Nat}(hi:i<n):∃ad,ixV 1 v (iv i)=some (.pointer (some ad))/\v.ownBlock=some ad.block/\∀{u:Value} {k:KV},u.oneCell'=true->(∀w',w'.ownsRow base e 1 v n (xs.set i u)->w'.heap.size=w.heap.size->Fm (λy=>v.ownBlock=some y) w w'->k undef w')->St 1 w (.pointer (some ad)) u k:=by
 rcases h.2 with⟨rfl,hn⟩|⟨g,cap,cur,rfl,hbg,hgg,hnc,hcm,hcs,htake⟩
 ·omega
 ·rw[IZ] at hcs htake;refine⟨⟨g,i,none⟩,by rw[dT hi,aA];simp,rfl,?_⟩;intro u k hu hk;refine au hgg oM hu ?_;intro w' h1 h2 h3;refine hk w' ⟨by rw[I3];exact h.1,.inr ⟨g,cap,_,rfl,hbg,h1,hnc,hcm,by simp[hcs],?_⟩⟩ h2 (h3.mono (λy _ e=>by rw[e];rfl));rw[IZ,<- htake];simp[List.take_set]
theorem Hb{f:Fr}{w:World}{i j g n:Nat}{t t':TypeId}{cs:Array Value}{u:Value}{k:KV}(hb:w.heap[g]?=some (.cells cs t'))(hf:f i=pv g)(hu:f j=u)(hk:k (.tuple #[.agg cs,u]) w)(hn:cs.size=n:=by rfl)(hA:mW prog t=some true:=by kernel_rfl)(hS:bM prog t=some n:=by kernel_rfl):qo (jq prog f w [.cell i t,.tmp j]) w k:=by
 have e2:yx prog f w (.tmp j)=some u:=by simp only[yx,hu]
 simp only[jq,AK hf hA hS hb hn,e2,qo,Ej];exact hk
theorem HB{A R:World->Prop}{G:Prop}(b:(∀w,A w->R w)->G)(a:∀w,A w->R w):G:=b a
theorem ia(l:List Int)(hl:l.length<=1000)(w:World)(e:TypeId):CellsAt (w.alloc (.cells (l.map iv).toArray e)) (.slice (some ⟨w.heap.size,0,none⟩) l.length l.length) l.length 1 (l.map iv):=by refine⟨⟨_,l.length,rfl,oM,by unfold maxLen;omega,λe=>(by cases e),λj u hj=>⟨_,rfl,?_⟩⟩,sI⟩;rw[aA,ab (ay w _),E7,I5];exact hj
open M (Tu keyOk tu dL deadB tuRd fE)
abbrev tuC(t:Tu):Array Value:=#[iv t.xmin,iv t.xmax,.bool false,stv t.key,stv t.val]
theorem keyOk_iff{k:Bs}:keyOk k=true↔0<k.length/\k.length<=24:=by unfold keyOk;rw[C4]
section
variable{w:World}
theorem mL{k:Bs}(h:keyOk k=true):Cl prog 417 [stv k] w λv w'=>v=.bool true/\w'=w:=by rw[keyOk_iff] at h;refine cU1 func417 ?_;simp only[RU,show decide (0<(k.length:Int))=true by simp;omega,show decide ((k.length:Int)<=24)=true by simp;omega,H7]
theorem iA{t:Tu}(h:tu t=true):Cl prog 410 [.agg (tuC t)] w λv w'=>v=.tuple #[stv (dL t),iv 0]/\Fm F0 w w':=by unfold tu at h;rw[E0,C4] at h;obtain⟨⟨h1,h2,h3,h4,h5⟩,hk⟩:=h;have hk':=keyOk_iff.1 hk;refine cU1 func410 ?_ (V []) (J [(6,[4])]);refine ae ?_;intro b w1 rfl hs hw hf;have c:=λo=>ab (off:=o) hw;simp only[RU,c,C3 (oM:¬t.xmin<1),C3 (oM:¬1024<t.xmin),C3 (oM:¬t.xmax<0),C3 (oM:¬1024<t.xmax)];refine(mL hk).mono ?_;rintro _ _ ⟨rfl,rfl⟩;simp only[RU,c,C3 (oM:¬(64:Int)<(t.val.length:Int)),jn1];refine WS.new (Fm.refl _ _) ?_;intro w2 r hW hf2;have c:=λo=>ab (off:=o) (hW.fm.heap hw id);simp only[RU,c];refine hW.text oM (by simp;omega) ?_;intro u w3 hW;have c:=λo=>ab (off:=o) (hW.fm.heap hw id);simp only[RU,c];have hl:=aK (n:=t.key.length) oM;refine hW.text oM (by simp[iK];omega) ?_;intro u w4 hW;have hc:=λ(w':World) (h:Fm F0 w4 w') o=>ab (off:=o) (h.heap (hW.fm.heap hw id) id);refine⟨λw'=>Fm F0 w4 w',Fm.drew _ _,rdP (u:=iv t.xmin) (λw' h=>hc w' h 0) (rdP (u:=iv t.xmax) (λw' h=>hc w' h 1) ?_)⟩;refine(bt _ ⟨oM,oM⟩ _).mono ?_;rintro _ w5 ⟨rfl,g1⟩;have g1:=Fmf (Fm.drew F0 w4) g1;refine⟨g1,(bt _ ⟨oM,oM⟩ _).mono ?_⟩;rintro _ w6 ⟨rfl,g2⟩;have g2:=Fmf g1 g2;have b1:=bK 1 1;have b2:=bK t.xmin 2;have b3:=bK t.xmax 2;refine⟨g2,?_⟩;simp only[RU,mG (a:=eV 1 1) (b:=eV t.xmin 2) oM];refine(bt _ ⟨oM,oM⟩ _).mono ?_;rintro _ w7 ⟨rfl,g3⟩;have hW:=hW.keep (Fmf g2 g3);simp only[RU,mG (a:=eV 1 1++eV t.xmin 2) (b:=eV t.xmax 2) (by rw[C5];omega)];refine(dm hW.wr.1).mono ?_;rintro _ _ ⟨rfl,rfl⟩;simp only[RU,mG (a:=eV 1 1++eV t.xmin 2++eV t.xmax 2) (b:=[]++iK t.key++iK t.val) (by simp[iK];have:=aK (n:=t.val.length) oM;omega)];exact⟨rfl,Fmf hf hW.fm⟩
abbrev tu0:Tu:=⟨0,0,[],[]⟩
theorem fD{s:Bs}(hs:s.length<=1000000){x:Option Tu}(h:M.tuAt s=some x):Cl prog 202 [stv s] w λv w'=>v=.tuple #[.agg (tuC (x.getD tu0)),iv (bif x.isSome then 0 else 110)]/\Fm F0 w w':=by
 refine cU1 func202 ?_ (V []) (J [(5,[6])]);refine ae ?_;rintro b w1 rfl hs1 hw hf1;unfold M.tuAt at h;by_cases hl:s.length<5
 ·rw[C9 hl] at h;cases h;simp only[RU,C9 (oM:(s.length:Int)<5)];refine bst (tuC tu0) (ao hw λw2 hw2 hs2 hf2=>?_);simp only[RU,aa (n:=5) hw2 rfl];exact⟨rfl,Fm.own hf1 hf2 (by rintro y rfl;exact D9 _)⟩
 ·rw[C3 hl,C8,E6] at h;obtain⟨t,h,rfl⟩:=h;unfold fE at h;cases hc:decide (5<=s.length)&&decide ((s.getD 0 0).toNat=1)&&decide (vz (tuRd s).2.2.1 (tuRd s).2.2.2=0)&&decide (ofN ((s.drop 1).take 2)≠0/\ofN ((s.drop 1).take 2)<=1024/\ofN ((s.drop 3).take 2)<=1024/\(tuRd s).1≠[]) with
  | false=>rw[hc] at h;cases h
  | true=>
  rw[hc] at h;cases h;simp only[E0,C4] at hc;obtain⟨⟨⟨g1,g2⟩,g3⟩,g4,g5,g6,g7⟩:=hc;have e0:ixS (stv s) (iv 0)=some (.int .u8 1):=by rw[show(iv 0)=.int .i64 ((0:Nat):Int) from rfl,dF oM,g2];rfl
  have e1:slS (stv s) (some (iv 5)) none=some (stv (s.drop 5)):=eP (i:=5) oM .i64;have e2:slS (stv s) (some (iv 1)) (some (iv 3))=some (stv ((s.drop 1).take 2)):=mH (i:=1) (j:=3) oM oM .i64 .i64;have e3:slS (stv s) (some (iv 3)) (some (iv 5))=some (stv ((s.drop 3).take 2)):=mH (i:=3) (j:=5) oM oM .i64 .i64;simp only[RU,C3 (oM:¬(s.length:Int)<5),e0,e1];refine(fK _ _).mono ?_;rintro _ w2 ⟨r,rfl,hr,hR,hf2⟩;have hf2:=Fmf (Fm.drew F0 w1) hf2;have hdl:(s.drop 5).length<=1000000:=by rw[G4];omega
  refine aJ (λvs w'=>∃b,vs=[pv b]/\w1.heap.size<=b/\w'.heap[b]?=some (.cells (tuC ⟨ofN ((s.drop 1).take 2),ofN ((s.drop 3).take 2),[],[]⟩) 302)/\RdAt w' r (s.drop 5) 0/\Fm F0 w1 w') ?_ ?_
  ·rintro _ w3 ⟨b,rfl,hb,hw3,hR,hf3⟩;have hbr:b≠r:=by rintro rfl;unfold RdAt at hR;rw[hw3] at hR;cases hR
   refine⟨_,rfl,(fW (st:=(s.drop 5,0)) hR hdl dC).mono ?_⟩;rintro _ w4 ⟨rfl,hR,hf4⟩;refine(fW hR (F8 (pP dC _).2 hdl) dC).mono ?_;rintro _ w5 ⟨rfl,hR,hf5⟩;have hw5:=hf5.heap (hf4.heap hw3 hbr) hbr;have hf5:=Fm.own (Fm.own hf3 hf4 (by rintro y rfl;rw[aM] at hr;exact hr)) hf5 (by rintro y rfl;rw[aM] at hr;exact hr);simp only[RU];refine au hw5 (j:=3) (dC:3<5) rfl λw6 hw6 hs6 hf6=>?_;refine au hw6 (j:=4) (dC:4<5) rfl λw7 hw7 hs7 hf7=>?_
   replace hw7:w7.heap[b]?=some (.cells (tuC ⟨ofN ((s.drop 1).take 2),ofN ((s.drop 3).take 2),(tuRd s).1,(tuRd s).2.1⟩) 302):=hw7
   have hR:=hf7.heap (hf6.heap hR (λe=>hbr e.symm)) (λe=>hbr e.symm);have hf7:=Fm.own (Fm.own hf5 hf6 (by rintro y rfl;exact hb)) hf7 (by rintro y rfl;exact hb);refine(gO hR).mono ?_;rintro _ _ ⟨rfl,rfl⟩;rw[show vz (rt 64 (rt 24 (s.drop 5,0)).2).2.1 (rt 64 (rt 24 (s.drop 5,0)).2).2.2=0 from g3];have c:=λo=>ab (off:=o) hw7;simp only[RU,show((0:Int) != 0)=false from rfl,jW,show jT .u8 1 2=1 from rfl,show((1:Int) != 1)=false from rfl,c,show((ofN ((s.drop 1).take 2):Int) == 0)=false by rw[aV,C7];omega,C3 (oM:¬(1024:Int)<(ofN ((s.drop 1).take 2):Int)),C3 (oM:¬(1024:Int)<(ofN ((s.drop 3).take 2):Int)),C3 g7,aa (n:=5) hw7 rfl];have hwb:=hf7.heap hw id;refine ao hwb λw8 hw8 hs8 hf8=>?_;simp only[RU,aa (n:=5) hw8 rfl];exact⟨rfl,Fm.own (Fmf hf1 hf7) hf8 (by rintro y rfl;exact D9 _)⟩
  ·intro kk hkk;have z1:=hf2.size;have o1:=λw'=>cX w' ((s.drop 1).take 2) (by simp;omega);have o2:=λw'=>cX w' ((s.drop 3).take 2) (by simp;omega);have S:∀(w4:World) (b:Nat),Fm F0 w2 w4->w2.heap.size<=b->w4.heap[b]?=some (.cells (tuC tu0) 302)->St 5 w4 (pv b) (.agg (tuC ⟨ofN ((s.drop 1).take 2),ofN ((s.drop 3).take 2),[],[]⟩)) λ_ w=>kk [pv b] w:=λw4 b hf hb hw=>ao hw λw5 hw5 _ hf5=>hkk _ _ ⟨b,rfl,oM,hw5,hf5.heap (hf.heap hR id) (by rintro rfl;have:=aj hR;omega),Fmf hf2 (Fm.own hf hf5 (by rintro y rfl;exact hb))⟩;refine⟨λw'=>Fm F0 w2 w',Fm.drew _ _,?_⟩;simp only[RU,fJ,show vG .u8 1 2=0 from rfl,show((0:Int) != 0)=false from rfl,e2,e3];refine⟨(o1 _).mono ?_,ae ?_,trivial⟩
   ·rintro _ _ ⟨rfl,rfl⟩;refine⟨Fm.drew _ _,(o2 _).mono ?_,ae ?_,trivial⟩
    ·rintro _ _ ⟨rfl,rfl⟩;refine⟨Fm.drew _ _,_,λw' h=>bst (tuC ⟨ofN ((s.drop 1).take 2),ofN ((s.drop 3).take 2),[],[]⟩) ⟨rfl,rfl⟩,ae ?_⟩;rintro b w4 rfl hs4 hw4 hf4;exact⟨Fmf (Fm.drew _ _) hf4,S _ _ (Fmf (Fm.drew _ _) hf4) (Fm.drew F0 w2).size hw4⟩
    ·rintro b w4 rfl hs4 hw4 hf4;refine⟨Fmf (Fm.drew _ _) hf4,(o2 _).mono ?_⟩;rintro _ _ ⟨rfl,rfl⟩;exact⟨Fmf (Fm.drew _ _) hf4,bst (tuC ⟨ofN ((s.drop 1).take 2),ofN ((s.drop 3).take 2),[],[]⟩) ⟨rfl,S _ _ (Fmf (Fm.drew _ _) hf4) (Fm.drew F0 w2).size hw4⟩⟩
   ·rintro b w4 rfl hs4 hw4 hf4;refine⟨Fmf (Fm.drew _ _) hf4,(o1 _).mono ?_⟩;rintro _ _ ⟨rfl,rfl⟩;refine⟨Fmf (Fm.drew _ _) hf4,(o2 _).mono ?_⟩;rintro _ _ ⟨rfl,rfl⟩;exact⟨Fmf (Fm.drew _ _) hf4,bst (tuC ⟨ofN ((s.drop 1).take 2),ofN ((s.drop 3).take 2),[],[]⟩) ⟨rfl,S _ _ (Fmf (Fm.drew _ _) hf4) (Fm.drew F0 w2).size hw4⟩⟩
end
open M (Ent entOk sA fe cmpB vw eM)
def Fk:Go.Shelf.Ren:=⟨λ|106=>406|213=>429|265=>445|n=>n,λn=>n,λn=>n⟩
theorem CJ:Lays.n106 prog Fk:=⟨kR,func406.trans (IR some kR),func429.trans (IR some kR),func445.trans (IR some kR),underlying3,isAgg3,sizeOf3,zeroValue3,underlying9,isAgg9,sizeOf9,zeroValue9⟩
abbrev entC(e:Ent):Array Value:=#[stv e.key,iv e.page,iv e.slot]
section
variable{w:World}
theorem wI:∀a b:Bs,Lib.compareBytes a b=cmpB a b
 | [],[]=>rfl
 | [],_::_=>rfl
 | _::_,[]=>rfl
 | x::a,y::b=>by rw[Lib.compareBytes,cmpB,<- wI a b];simp only[UInt8.lt_iff_toNat_lt,cond_eq_ite,C4]
theorem yH(a b:Bs):Cl prog 406 [stv a,stv b] w λv w'=>v=iv (cmpB a b)/\w'=w:=eY (Any.strings_Compare CJ (str a) (str b) w) (by rintro e w' ⟨rfl,rfl⟩;exact⟨_,rfl,by rw[<- wI];rfl,rfl⟩)
theorem kA(a b:Int):Cl prog 198 [iv a,iv b] w λv w'=>v=iv (vw a b)/\w'=w:=by
 refine cU2 func198 ?_;refine cU1 func280 ?_;simp only[RU,(sI:(a != a)=false)];refine cU1 func280 ?_;simp only[RU,(sI:(b != b)=false)];unfold vw;by_cases h1:a<b
 ·simp only[RU,C9 h1];exact⟨rfl,trivial⟩
 ·by_cases h2:b<a
  ·simp only[RU,C3 h1,C9 h2];exact⟨rfl,trivial⟩
  ·simp only[RU,C3 h1,C3 h2];exact⟨rfl,trivial⟩
theorem eJ(n a b:Int):Cl prog 403 [iv n,iv a,iv b] w λv w'=>v=.bool (decide (a<=n)&&decide (n<=b))/\w'=w:=by refine cU3 func403 ?_;cases h:decide (a<=n)<;>simp only[RU]<;>exact⟨rfl,trivial⟩
theorem fN{e:Ent}(h:entOk e=true):Cl prog 350 [.agg (entC e)] w λv w'=>v=.bool true/\Fm F0 w w':=by unfold entOk at h;rw[C4] at h;obtain⟨h1,h2,h3,h4,h5,h6⟩:=h;refine cU1 func350 ?_;refine ae ?_;rintro b w1 rfl hs hw hf;have c:=λo=>ab (off:=o) hw;simp only[RU,c];refine(eJ _ _ _).mono ?_;rintro _ _ ⟨rfl,rfl⟩;simp only[RU,C9 (oM:(1:Int)<=(e.key.length:Int)),C9 (oM:(e.key.length:Int)<=24),c,JN];refine(eJ _ _ _).mono ?_;rintro _ _ ⟨rfl,rfl⟩;simp only[RU,C9 h3,C9 h4,c,JN];refine(eJ _ _ _).mono ?_;rintro _ _ ⟨rfl,rfl⟩;simp only[RU,C9 h5,C9 h6,JN];exact hf
theorem zY{l:List Int}{v:Value}(hl:CellsAt w v l.length 1 (l.map iv)):Cl prog 405 [v] w λr w'=>r=iv ((l.find? λx=>decide (x≠0)).getD 0)/\w'=w:=by
 have hlt:=hl.lt;unfold maxLen at hlt;refine cU1 func405 ?_ (V [(3,[8])]);simp only[RU,hl.lenV];refine⟨λvs w2=>∃k:Nat,vs=[iv k]/\k<=l.length/\(l.find? λx=>decide (x≠0))=((l.drop k).find? λx=>decide (x≠0))/\w2=w,λvs _=>(l.length - nth vs 0).toNat,⟨0,rfl,oM,rfl,rfl⟩,?_⟩;rintro w2 ik ⟨k,hvs,hk,hall,rfl⟩;cases hvs;by_cases hl2:k<l.length
 ·have hx:l[k]?=some l[k]:=C6 hl2;rw[Jo hl2,List.find?_cons] at hall;generalize l[k]=x at hx hall;obtain⟨ad,hix,_,hc⟩:=hl.iS (i:=k) (x:=iv x) (by rw[E4,hx];rfl) .i64;simp only[RU,C9 (oM:(k:Int)<(l.length:Int)),hix,hc,aF];by_cases h0:x=0
  ·rw[C3 (show ¬x≠0 from λh=>h h0)] at hall;simp only[RU,C9 h0,show IntKind.i64.wrap ((k:Int)+1)=((k+1:Nat):Int) by rw[af]<;>omega];exact⟨⟨k+1,rfl,oM,hall,trivial⟩,by simp only[ba];omega⟩
  ·rw[C9 h0] at hall;simp only[RU,C3 h0];rw[hall];exact⟨rfl,trivial⟩
 ·rw[J8 oM] at hall;simp only[RU,C3 (oM:¬(k:Int)<(l.length:Int))];rw[hall];exact⟨rfl,trivial⟩
theorem gS(a b:Ent):Cl prog 353 [.agg (entC a),.agg (entC b)] w λv w'=>v=iv (eM a b)/\Fm F0 w w':=by
 refine cU2 func353 ?_;refine ae ?_;rintro g1 w1 rfl hs1 hw1 hf1;refine ae ?_;rintro g2 w2 rfl hs2 hw2 hf2
 replace hw1:=hf2.heap hw1 id
 have c1:=λ(w':World) (h:Fm F0 w2 w') o=>ab (off:=o) (h.heap hw1 id);have c2:=λ(w':World) (h:Fm F0 w2 w') o=>ab (off:=o) (h.heap hw2 id);refine⟨λw'=>Fm F0 w2 w',Fm.drew _ _,?_⟩;simp only[RU,c1 _ (Fm.drew _ _),c2 _ (Fm.drew _ _)];refine rdP (u:=iv a.page) (λw' h=>c1 w' h 1) (rdP (u:=iv b.page) (λw' h=>c2 w' h 1) (rdP (u:=iv a.slot) (λw' h=>c1 w' h 2) (rdP (u:=iv b.slot) (λw' h=>c2 w' h 2) ?_)));refine(yH _ _).mono ?_;rintro _ _ ⟨rfl,rfl⟩;refine⟨Fm.drew _ _,(kA _ _).mono ?_⟩;rintro _ _ ⟨rfl,rfl⟩;refine⟨Fm.drew _ _,(kA _ _).mono ?_⟩;rintro _ _ ⟨rfl,rfl⟩;have hf:=Fmf (Fmf hf1 hf2) (Fm.drew F0 w2);generalize w2.drew=w3 at hf;refine bsl 3 #[iv (cmpB a.key b.key),iv (vw a.page b.page),iv (vw a.slot b.slot)] 3 ?_;refine(zY (l:=[cmpB a.key b.key,vw a.page b.page,vw a.slot b.slot]) (ia _ sI w3 3)).mono ?_;rintro _ _ ⟨rfl,rfl⟩;refine⟨?_,Fmf hf (Fm.alloc F0 w3 _)⟩;unfold eM;simp only[List.find?_cons,List.find?_nil];cases decide (cmpB a.key b.key≠0) with
 | true=>rfl
 | false=>
  cases decide (vw a.page b.page≠0) with
  | true=>rfl
  | false=>
   cases h:decide (vw a.slot b.slot≠0) with
   | true=>rfl
   | false=>simp at h;simp[h]
theorem ki{e:Ent}(h:entOk e=true):Cl prog 355 [.agg (entC e),.slice none 0 0] w λv w'=>v=stv (sA e)/\Fm F0 w w':=by unfold entOk at h;rw[C4] at h;obtain⟨h1,h2,h3,h4,h5,h6⟩:=h;refine cU2 func355 ?_;refine ae ?_;rintro b w1 rfl hs hw hf;refine WS.new (Fm.refl _ _) ?_;intro w2 r hW hf2;have c:=λo=>ab (off:=o) (hW.fm.heap hw id);simp only[RU,c];refine hW.text oM (by simp;omega) ?_;intro u w3 hW;have c:=λo=>ab (off:=o) (hW.fm.heap hw id);have hl:=aK (n:=e.key.length) oM;simp only[RU,c];refine hW.lit (ns:=[e.page,e.slot]) (ot _ _ _) rfl (by intro n hn;simp at hn;omega) (by simp[iK];omega) ?_;intro u w4 hW;have e1:=aK (n:=e.page) oM;have e2:=aK (n:=e.slot) oM;refine hW.num (ns:=[]) (CellsAt.aT (World.ownsRow_nil w4 0 3 1)) sI sI (by simp[iK,cu];omega) ?_;intro u w5 hW;refine(dm hW.wr.1).mono ?_;rintro _ _ ⟨rfl,rfl⟩;exact⟨by simp[sA,cu],Fmf hf hW.fm⟩
theorem wY{e:Ent}(h:entOk e=true):Cl prog 295 [.agg (entC e)] w λv w'=>v=.tuple #[stv (sA e),iv 0]/\Fm F0 w w':=by refine cU1 func295 ?_;refine ae ?_;rintro b w1 rfl hs hw hf;simp only[RU,aa (n:=3) hw rfl];refine(fN h).mono ?_;rintro _ w2 ⟨rfl,hf2⟩;simp only[RU,aa (n:=3) (hf2.heap hw id) rfl];refine(ki h).mono ?_;rintro _ w3 ⟨rfl,hf3⟩;exact⟨rfl,Fmf hf (Fmf hf2 hf3)⟩
theorem kj{s:Bs}(hs:s.length<=1000000){e:Ent}(h:fe s=some e):Cl prog 371 [stv s] w λv w'=>v=.tuple #[.agg (entC e),iv 0]/\Fm F0 w w':=by
 unfold fe at h;simp only at h;cases hc:decide (vz (rn 65535 (rn 65535 (rt 24 (s,0)).2).2).2.1 (rn 65535 (rn 65535 (rt 24 (s,0)).2).2).2.2=0)&&entOk ⟨(rt 24 (s,0)).1,(rn 65535 (rt 24 (s,0)).2).1,(rn 65535 (rn 65535 (rt 24 (s,0)).2).2).1⟩ with
 | false=>rw[hc] at h;cases h
 | true=>
 rw[hc] at h;cases h;rw[E0,C4] at hc;obtain⟨h1,h2⟩:=hc;refine cU1 func371 ?_;refine ae ?_;rintro b w1 rfl hs1 hw hf;refine(fK _ _).mono ?_;rintro _ w2 ⟨r,rfl,hr,hR,hf2⟩;have hs2:=(pP (most:=24) dC (s,0)).2;have hs3:=(bP 65535 (rt 24 (s,0)).2).2.2;refine(fW (st:=(s,0)) hR hs dC).mono ?_;rintro _ w3 ⟨rfl,hR,hf3⟩;refine(dy hR (F8 hs2 hs) dC).mono ?_;rintro _ w4 ⟨rfl,hR,hf4⟩;refine(dy hR (F8 hs3 (F8 hs2 hs)) dC).mono ?_;rintro _ w5 ⟨rfl,hR,hf5⟩;have hf5:=Fm.own (Fm.own (Fm.own hf2 hf3 (by rintro y rfl;exact hr)) hf4 (by rintro y rfl;exact hr)) hf5 (by rintro y rfl;exact hr);have hr5:=aj hR;refine bst (entC ⟨(rt 24 (s,0)).1,(rn 65535 (rt 24 (s,0)).2).1,(rn 65535 (rn 65535 (rt 24 (s,0)).2).2).1⟩) (aD λw6 hs6 hw6 hf6=>?_);refine(gO (hf6.heap hR id)).mono ?_;rintro _ _ ⟨rfl,rfl⟩;simp only[RU,h1,show((0:Int) != 0)=false from rfl,aa (n:=3) hw6 rfl];refine(fN h2).mono ?_;rintro _ w7 ⟨rfl,hf7⟩;simp only[RU,aa (n:=3) (hf7.heap hw6 id) rfl];have hf7:=Fmf hf5 (Fmf hf6 hf7);refine ao (hf7.heap hw id) λw8 hw8 hs8 hf8=>?_;simp only[RU,aa (n:=3) hw8 rfl];exact Fm.own (Fmf hf hf7) hf8 (by rintro y rfl;exact D9 _)
end
structure PgN (w : World) (n0 : Nat) (v : Value) (p : Pg) : Prop where
 one : v.oneCell' = true
 it : CellsAt w v p.items.length 1 (p.items.map stv)
 small : ∀ x ∈ p.items, x.length ≤ 140737488355328
 ins : In p.lsn ∧ In p.kind ∧ In p.level ∧ In p.right ∧ p.high.length ≤ 140737488355328 ∧ p.items.length * 16 ≤ 140737488351232
 fr : p.items ≠ [] → ∀ g, blockOf v = some g → n0 ≤ g
section
variable{w w':World}{n0:Nat}{v u:Value}{p:Pg}
theorem PgN.as(h:PgN w n0 v p):PgAs w (pcs p v) p:=⟨⟨v,rfl,h.one,h.it⟩,h.small,by have:=h.ins;refine⟨this.1,this.2.1,this.2.2.1,this.2.2.2.1,this.2.2.2.2.1,oM⟩⟩
theorem PgN.dO{S:Nat->Prop}(h:PgN w n0 v p)(hf:Fm S w w')(hS:∀y,S y->y<n0):PgN w' n0 v p:=⟨h.one,h.it.fS hf (λhx g hg e=>by have:=h.fr (by simpa using hx) g hg;have:=hS g e;omega),h.small,h.ins,h.fr⟩
theorem PgN.oN{b:Nat}(h:PgN w n0 v p)(hf:Fm (·=b) w w')(hb:p.items≠[]->blockOf v≠some b):PgN w' n0 v p:=⟨h.one,h.it.fS hf (λhx g hg e=>hb (by simpa using hx) (by rw[hg,e])),h.small,h.ins,h.fr⟩
theorem PgN.keep(h:PgN w n0 v p)(hf:Fm F0 w w'):PgN w' n0 v p:=h.dO hf (λy e=>e.elim)
theorem PgN.base{n1:Nat}(h:PgN w n0 v p)(hn:n1<=n0):PgN w n1 v p:=⟨h.one,h.it,h.small,h.ins,λa g b=>F8 hn (h.fr a g b)⟩
theorem PgN.xV(h:PgOw w n0 (pcs p v) p)(hl:p.items.length<=1000):PgN w n0 v p:=by
 obtain⟨u,e,ho⟩:=h.ex;have:u=v:=by simp only[pcs] at e;injection e with e;simpa using e.symm
 subst this;have hi:=h.ins;refine⟨az ho,CellsAt.aT ho,h.small,⟨hi.1,hi.2.1,hi.2.2.1,hi.2.2.2.1,hi.2.2.2.2.1,oM⟩,λ_ g hg=>?_⟩;rcases ho.2 with⟨rfl,_⟩|⟨g',c,cur,rfl,hb,_⟩
 ·cases hg
 ·cases hg;exact hb
def wi(p:Pg)(l:List Bs):Pg:={ p with items:=l }
theorem Ah{l:List Bs}(h:eU (wi p l)=true):l.length<=255:=by unfold eU at h;simp only[E0,C4] at h;exact h.1
theorem lK{v:Value}(p:Pg)(hv:v.oneCell'=true):(pcs p v).toList.all Value.oneCell'=true:=by simp only[pcs,Ks,List.all_nil,hv];rfl
theorem mB{l:List Bs}(hu:PgN w n0 u (wi p l))(hf:eU (wi p l)=true):Cl prog 415 [.agg (pcs p v),u] w λr w'=>r=.tuple #[.agg (pcs (wi p l) u),iv 0]/\Fm F0 w w':=by
 refine cU2 func415 ?_;refine ae ?_;rintro b1 w1 rfl hs1 hw1 hf1;refine ae ?_;rintro b2 w2 rfl hs2 hw2 hf2;simp only[RU];refine au (hf2.heap hw1 id) (j:=5) (dC:5<6) hu.one λw3 hw3 hs3 hf3=>?_
 replace hw3:w3.heap[w.heap.size]?=some (.cells (pcs (wi p l) u) 68):=hw3
 have hF3:=Fm.own (Fmf hf1 hf2) hf3 (by rintro y rfl;exact D9 _);simp only[RU,aa (n:=6) hw3 rfl];refine(oT (hu.keep hF3).as).mono ?_;rintro _ w4 ⟨rfl,hf4⟩;rw[hf];simp only[RU,aa (n:=6) (hf4.heap hw3 id) rfl];refine ao (hf4.heap (hf3.heap hw2 (oM:¬_=_)) id) (λw5 hw5 hs5 hf5=>?_) rfl rfl (lK _ hu.one);simp only[RU,aa (n:=6) hw5 rfl];exact Fm.own (Fmf hF3 hf4) hf5 (by rintro y rfl;omega)
theorem kW(h:PgN w n0 v p){j:Nat}(hj:j<=p.items.length){x:Bs}(hx:x.length<=1000000)(hf:eU (wi p (M.putIt p.items j x))=true):
  Cl prog 364 [.agg (pcs p v),iv j,stv x] w λr w'=>∃u,r=.tuple #[.agg (pcs (wi p (M.putIt p.items j x)) u),iv 0]/\PgN w' w.heap.size u (wi p (M.putIt p.items j x))/\Fm F0 w w':=by
 have hil:M.putIt p.items j x=kB p.items j x:=rfl;have hlen:=Ah hf;have hl2:=gY x hj;have hi:=h.ins;refine cU3 func364 ?_;refine ae ?_;rintro b1 w1 rfl hs1 hw1 hf1;refine ae ?_;rintro b2 w2 rfl hs2 hw2 hf2;have hF2:=Fmf hf1 hf2;have hw1:=hf2.heap hw1 id;have hlt:=aj hw1;have c:=λ(w':World) (hf:Fm (λy=>w2.heap.size<=y) w2 w') o=>ab (off:=o) (hf.heap hw1 oM);have cL:=λ(w':World) (hf:Fm (λy=>w2.heap.size<=y) w2 w')=>aa (n:=6) (hf.heap hw1 oM) rfl;have up:∀{w'},Fm F0 w2 w'->Fm (λy=>w2.heap.size<=y) w2 w':=λhf=>hf.mono iE;have own:∀{w'},Fm (λy=>w2.heap.size<=y) w2 w'->Fm F0 w2 w':=λhf=>Fm.own (Fm.refl F0 w2) hf (λy e=>e);have hi2:In p.lsn/\In p.kind/\In p.level/\In p.right/\p.high.length<=140737488355328/\(M.putIt p.items j x).length*16<=140737488351232:=⟨hi.1,hi.2.1,hi.2.2.1,hi.2.2.2.1,hi.2.2.2.2.1,oM⟩;have hsm:∀y∈M.putIt p.items j x,y.length<=140737488355328:=by
  intro y hy;simp only[M.putIt,H5,Jw] at hy;rcases hy with(hy|rfl)|hy
  ·exact h.small y (List.mem_of_mem_take hy)
  ·omega
  ·exact h.small y (List.mem_of_mem_drop hy)
 have fin:∀(w6:World) (r:Value) (a:Option Addr) (cp:Nat),r=.slice a (p.items.length+1) cp->CellsAt w6 r (p.items.length+1) 1 ((kB p.items j x).map stv)->(∀g,blockOf r=some g->w2.heap.size<=g)->Fm (λy=>w2.heap.size<=y) w2 w6 ->
   Cl prog 415 [.agg (pcs p v),r] w6 λv w_3=>Pu (bj v 0) λv_1=>Pu (bj v 1) λv_2=>St 6 w_3 (pv w1.heap.size) v_1 λv w_4=>Pu (aI w_4 ⟨w1.heap.size,0,none⟩ 6) λu=>∃u_1,Value.tuple #[u,v_2]=.tuple #[.agg (pcs (wi p (M.putIt p.items j x)) u_1),iv 0]/\PgN w_4 w.heap.size u_1 (wi p (M.putIt p.items j x))/\Fm F0 w w_4:=by
  intro w6 r a cp hr hcell hbl hf6;have hN:PgN w6 w2.heap.size r (wi p (M.putIt p.items j x)):=⟨by rw[hr];rfl,by rw[<- hl2,<- hil] at hcell;exact hcell,hsm,hi2,λ_=>hbl⟩;refine(mB hN hf).mono ?_;rintro _ w7 ⟨rfl,hf7⟩;have hf67:=hf6.trans hf7 (U:=λy=>w2.heap.size<=y) iT iE;simp only[RU];refine ao (hf67.heap hw2 oM) (λw8 hw8 hs8 hf8=>?_) rfl rfl (lK _ hN.one);simp only[RU,aa (n:=6) hw8 rfl];refine⟨r,rfl,?_,Fm.own (Fmf hF2 (own hf67)) hf8 (by rintro y rfl;omega)⟩;exact((hN.keep hf7).dO hf8 (by rintro y rfl;omega)).base oM
 simp only[RU,C3 (oM:¬(j:Int)<0),PB.c5 hw1,h.it.lenV,C3 (oM:¬(p.items.length:Int)<(j:Int))];refine⟨λw'=>Fm (λy=>w2.heap.size<=y) w2 w',up (Fm.drew _ _),?_⟩;refine rdP cL (rdP (u:=v) (λw' hf=>PB.c5 (hf.heap hw1 oM)) ?_);have hc:CellsAt w2.drew v p.items.length 1 (p.items.map stv):=(h.it.keep hF2 iT).keep (Fm.drew F0 w2) iT;have z2:=(Fm.drew F0 w2).size;refine⟨(dh hc oM).mono ?_,bsl 1 #[stv x] 9 ?_,trivial⟩
 ·rintro lv w4 ⟨ho4,hf4⟩;have z3:=hf4.size;have hf4:=Fmf (Fm.drew F0 w2) hf4;refine⟨up hf4,bsl 1 #[stv x] 9 ?_⟩;have hf5:=Fm.alloc F0 w4 (.cells #[stv x] 9);have hn5:=ay w4 (.cells #[stv x] 9);have ho5:=ah ho4 hf5 (λ_ _ _ _ e=>e);have hlt4:=aP ho4;generalize w4.alloc (.cells #[stv x] 9)=w5 at hf5 hn5 ho5;have z4:=hf4.size;have z5:=hf5.size;refine⟨up (Fmf hf4 hf5),(kC ho5 hj hn5 (λe=>by have:=hlt4 _ e;omega) oM oM).mono ?_⟩;rintro r w6 ⟨a,cp,hr,hcell,hbl,hf6⟩;have hf6:=(Fmf hf4 hf5).trans hf6 (U:=λy=>w2.heap.size<=y) iE (λy _ e=>oM);exact⟨hf6,fin w6 r a cp hr hcell (λg hg=>by have:=hbl g hg;omega) hf6⟩
 ·have hf4:=Fm.alloc F0 w2.drew (.cells #[stv x] 9);have hn4:=ay w2.drew (.cells #[stv x] 9);have hs4:=aE w2.drew (.cells #[stv x] 9);generalize w2.drew.alloc (.cells #[stv x] 9)=w4 at hf4 hn4 hs4;have hf4':=Fmf (Fm.drew F0 w2) hf4;refine⟨up hf4',(dh (hc.keep hf4 iT) oM).mono ?_⟩;rintro lv w5 ⟨ho5,hf5⟩;have z5:=hf5.size;refine⟨up (Fmf hf4' hf5),(kC ho5 hj (hf5.heap hn4 id) (λe=>by have:=aP ho5 _ e;omega) oM oM).mono ?_⟩;rintro r w6 ⟨a,cp,hr,hcell,hbl,hf6⟩;have hf6:=(Fmf hf4' hf5).trans hf6 (U:=λy=>w2.heap.size<=y) iE (λy _ e=>oM);exact⟨hf6,fin w6 r a cp hr hcell (λg hg=>by have:=hbl g hg;omega) hf6⟩
theorem iZ(h:PgN w n0 v p){j:Nat}(hj:j<p.items.length){x:Bs}(hx:x.length<=1000000)(hf:eU (wi p (p.items.set j x))=true):
  Cl prog 365 [.agg (pcs p v),iv j,stv x] w λr w'=>∃u,r=.tuple #[.agg (pcs (wi p (p.items.set j x)) u),iv 0]/\PgN w' w.heap.size u (wi p (p.items.set j x))/\Fm F0 w w':=by
 have hi:=h.ins;refine cU3 func365 ?_;refine ae ?_;rintro b1 w1 rfl hs1 hw1 hf1;refine ae ?_;rintro b2 w2 rfl hs2 hw2 hf2;have hF2:=Fmf hf1 hf2;have hw1:=hf2.heap hw1 id;simp only[RU,C3 (oM:¬(j:Int)<0),PB.c5 hw1,h.it.lenV,C3 (oM:¬(p.items.length:Int)<=(j:Int))];refine(dh (h.it.keep hF2 iT) oM).mono ?_;rintro lv w3 ⟨ho3,hf3⟩;obtain⟨ad,hix,had,hst⟩:=qZ ho3 hj;simp only[RU,hix];refine hst rfl λw4 ho4 hs4 hf4=>?_;have hof:=aP ho3;have hf4:=Fm.own hf3 hf4 (λy hy=>(hof y hy).1);simp only[RU,PB.all (hf4.heap hw1 id)];have hN:PgN w4 w.heap.size lv (wi p (p.items.set j x)):=by
  refine⟨az ho4,?_,?_,?_,?_⟩
  ·have:=CellsAt.aT ho4;rw[<- Kz] at this;simpa[wi] using this
  ·intro y hy;rcases JC hy with hy|rfl
   ·exact h.small y hy
   ·omega
  ·have:(p.items.set j x).length=p.items.length:=I3;exact⟨hi.1,hi.2.1,hi.2.2.1,hi.2.2.2.1,hi.2.2.2.2.1,by show(p.items.set j x).length*16<=_;omega⟩
  ·intro _ g hg;rcases ho4.2 with⟨rfl,_⟩|⟨g',c,cur,rfl,hb,_⟩
   ·cases hg
   ·cases hg;show _<=g';omega
 refine(mB hN hf).mono ?_;rintro _ w5 ⟨rfl,hf5⟩;simp only[RU];refine ao ((Fmf hf4 hf5).heap hw2 id) (λw6 hw6 hs6 hf6=>?_) rfl rfl (lK _ hN.one);simp only[RU,aa (n:=6) hw6 rfl];refine⟨lv,rfl,(hN.keep hf5).oN hf6 ?_,Fm.own (Fmf hF2 (Fmf hf4 hf5)) hf6 (by rintro y rfl;omega)⟩;rcases ho3.2 with⟨rfl,_⟩|⟨g',c,cur,rfl,hb,_⟩
 ·intro _ e;cases e
 ·intro _ e;have e:g'=w1.heap.size:=I6 e;omega
theorem uF(h:PgN w n0 v p)(hl:p.items.length<255)(hs:bp p<=510):Cl prog 314 [.agg (pcs p v)] w λr w'=>r=iv (510 - bp p:Nat)/\Fm F0 w w':=by refine cU1 func314 ?_;refine ae ?_;rintro b1 w1 rfl hs1 hw1 hf1;simp only[RU,PB.all hw1];refine(ll (h.keep hf1).as).mono ?_;rintro _ w2 ⟨rfl,hf2⟩;simp only[RU,show IntKind.i64.wrap (bp p:Int)=bp p by rw[af];omega,show IntKind.i64.wrap (512 - (bp p:Int))=512 - bp p by rw[af];omega,show IntKind.i64.wrap (512 - (bp p:Int) - 2)=((510 - bp p:Nat):Int) by rw[af]<;>omega,C3 (oM:¬((510 - bp p:Nat):Int)<0),PB.c5 (hf2.heap hw1 id),h.it.lenV,C3 (oM:¬(255:Int)<=(p.items.length:Int))];exact Fmf hf1 hf2
end
variable{k:KV}{w:World}{a b c d e f g i:Value}
theorem c349 (h:
 New (Value.cells a) 68 w λp1 w2=>
 New #[nl,nl,es,(iv 0),(iv 0),(.bool false)] 416 w2 λt3 w4=>
 New #[nl,nl,es,(iv 0),(iv 0),(.bool false)] 416 w4 λo5 w6=>
 LdN 6 w6 p1 λt7 w8=>
 Cl prog 66 [t7] w8 λt9 w10=>
 X2 t9 λt11 t12=>
 Pu (bI .neq t12 (iv 0)) λt13=>
 GdG (isB false t13) (λkk=>LA 1 p1 w10 λt15 w16=>Pu (bI .neq t15 (iv 3)) λt17=>kk t17 w16) w10 λ_ t18 w19=>
 Pu (aL t13 (.bool true) t18) λt20=>
 GdG (isB false t20) (λkk=>LA 3 p1 w19 λt22 w23=>Cl prog 403 [t22,(iv 0),(iv 65535)] w23 λt24 w25=>Pu (unV .not t24) λt26=>kk t26 w25) w19 λ_ t27 w28=>
 Pq t20 (.bool true) t27
 (LdN 6 w28 o5 λt30 w31=>
 St 6 w31 t3 t30 λu32 w33=>
 qo (jq prog (λj=>bif Nat.beq j 2 then t3 else bif Nat.beq j 3 then(.bool false) else undef) w33 [(ResultVar.cell 2 416),(ResultVar.tmp 3)]) w33 k)
 (Jn (λv54 w53=>∀g55:Fr,v54=[] /\
 (LA 5 p1 w53 λt57 w58=>
 Pu (lenV t57) λt59=>
 ∃(I60:LP) (m61:LN),I60 [(iv 0)] w58 /\
 ∀(g148:Fr) (w147:World),∀t70:Value,I60 [t70] w147 ->
 (BI .lss t70 t59
 (LI 1 t57 t70 w147 λt151 w152=>
 New #[es,(iv 0),(iv 0)] 221 w152 λx153 w154=>
 Jn (λv187 w186=>∀g188:Fr,∃e157:Value,v187=[e157] /\
 (Pu (bI .neq e157 (iv 0)) λt189=>
 Gd (isB false t189) (λkk=>kk t70 w186.drew) w186.drew λt190 w191=>
 Gd (isB false t189) (λkk=>Pu (bI .gtr t190 (iv 0)) λvv=>kk vv w191) w191 λt192 w193=>
 Gd (isB false t189) (λkk=>kk t192 w193) w193 λt194 w195=>
 Gd (isB true t194) (λkk=>Pu (faV 0 o5) λvv=>kk vv w195) w195 λt196 w197=>
 Gd (isB true t194) (λkk=>Ld w197 t196 kk) w197 λt198 w199=>
 w199=w197 /\
 Gd (isB true t194) (λkk=>kk t70 w197) w197 λt200 w201=>
 Gd (isB true t194) (λkk=>Pu (bI .sub t200 (iv 1)) λvv=>kk vv w201) w201 λt202 w203=>
 Gd (isB true t194) (λkk=>Pu (ixV 3 t198 t202) λvv=>kk vv w203) w203 λt204 w205=>
 Gd (isB true t194) (λkk=>LdN 3 w205 t204 kk) w205 λt206 w207=>
 w207=w205 /\
 Gd (isB true t194) (λkk=>LdN 3 w205 x153 kk) w205 λt208 w209=>
 w209=w205 /\
 Gd (isB true t194) (λkk=>Cl prog 353 [t206,t208] w205 kk) w205 λt210 w211=>
 Gd (isB true t194) (λkk=>Pu (bI .geq t210 (iv 0)) λvv=>kk vv w211) w211 λt212 w213=>
 Gd (isB false t189) (λkk=>Pu (aL t194 t212 (.bool false)) λvv=>kk vv w213) w213 λt214 w215=>
 Pq t189 (.bool true) t214
 (LdN 6 w215 o5 λt217 w218=>
 St 6 w218 t3 t217 λu219 w220=>
 qo (jq prog (λj=>bif Nat.beq j 2 then t3 else bif Nat.beq j 3 then(.bool false) else undef) w220 [(ResultVar.cell 2 416),(ResultVar.tmp 3)]) w220 k)
 (LdN 3 w215 x153 λt221 w222=>
 Pu (faV 2 o5) λt223=>
 LdN 3 w222 t223 λt224 w225=>
 Cl prog 353 [t221,t224] w225 λt226 w227=>
 LA 5 o5 w227 λt229 w230=>
 GdG (isB true t229) (λkk=>Pu (bI .gtr t226 (iv 0)) λt231=>kk t231 w230) w230 λ_ t232 w233=>
 GdG (isB false t232) (λkk=>Pu (bI .eql t226 (iv 0)) λt234=>kk t234 w233) w233 λ_ t235 w236=>
 GdG (isB true t235) (λkk=>LA 2 p1 w236 λt238 w239=>Pu (bI .gtr t238 (iv 0)) λt240=>kk t240 w239) w236 λ_ t241 w242=>
 Gd (isB false t232) (λkk=>Pu (aL t235 t241 (.bool false)) λvv=>kk vv w242) w242 λt243 w244=>
 Gd (isB true t229) (λkk=>Pu (aL t232 (.bool true) t243) λvv=>kk vv w244) w244 λt245 w246=>
 Pq t229 t245 (.bool false)
 (LdN 6 w246 o5 λt248 w249=>
 St 6 w249 t3 t248 λu250 w251=>
 qo (jq prog (λj=>bif Nat.beq j 2 then t3 else bif Nat.beq j 3 then(.bool false) else undef) w251 [(ResultVar.cell 2 416),(ResultVar.tmp 3)]) w251 k)
 (LA 0 o5 w246 λt253 w254=>
 LdN 3 w254 x153 λt255 w256=>
 RunS prog (Instr.buildSlice 76 1 #[(0,t255)]) w256 λt257 w258=>
 RunS prog (Builtin.append_ #[76,76] 76 #[t253,t257]) w258 λt259 w260=>
 SA 0 1 o5 w260 t259 λu262 w263=>
 Pu (bI .add t70 (iv 1)) λt264=>
 I60 [t264] w263/\m61 [t264] w263<m61 [t70] w147))))
 (λj155=>
 LA 2 p1 w154 λt266 w267=>
 BI .eql t266 (iv 0)
 (Cl prog 371 [t151] w267 λt269 w270=>
 X2 t269 λt271 t272=>
 St 3 w270 x153 t271 λu273 w274=>
 j155 [t272] w274)
 (Cl prog 369 [t151] w267 λt275 w276=>
 X3 t275 λt277 t278 t279=>
 St 3 w276 x153 t277 λu280 w281=>
 LA 1 o5 w281 λt283 w284=>
 RunS prog (Instr.buildSlice 25 1 #[(0,t278)]) w284 λt285 w286=>
 RunS prog (Builtin.append_ #[25,25] 25 #[t283,t285]) w286 λt287 w288=>
 SA 1 1 o5 w288 t287 λu290 w291=>
 ∃C292:World->Prop,C292 w291.drew /\
 (∃t293,(∀w294,C292 w294->LdN 3 w294 x153 λt295 w296=>
 t295=t293/\w296=w294) /\
 (Pu (bI .eql t70 (iv 0)) λt297=>
 Cl prog 404 [] w291.drew λt298 w299=>
 C292 w299 /\
 (RunS prog (do eqGuard .eql 221 (Operand.tmp 77) (Operand.tmp 78) t293 t298;binOp .eql 221 t293 t298) w299 λt300 w301=>
 w301=w299 /\
 Pu (aC TypeDesc.bool .neq t300 t297) λt302=>
 IfB t302
 (LdN 6 w299 o5 λt303 w304=>
 St 6 w304 t3 t303 λu305 w306=>
 qo (jq prog (λj=>bif Nat.beq j 2 then t3 else bif Nat.beq j 3 then(.bool false) else undef) w306 [(ResultVar.cell 2 416),(ResultVar.tmp 3)]) w306 k)
 (j155 [t279] w299)))))))
 (∃C307:World->Prop,C307 w147.drew /\
 (LdN 6 w147.drew o5 λt308 w309=>
 w309=w147.drew /\
 LA 2 p1 w147.drew λt311 w312=>
 w312=w147.drew /\
 Pu (bI .eql t311 (iv 0)) λt313=>
 Gd (isB false t313) (λkk=>Pu (faV 5 p1) λvv=>kk vv w147.drew) w147.drew λt314 w315=>
 ∃t316,(∀w317,C307 w317->Gd (isB false t313) (λkk=>Ld w317 t314 kk) w317 λt318 w319=>
 t318=t316/\w319=w317) /\
 (Gd (isB false t313) (λkk=>Pu (lenV t316) λvv=>kk vv w315) w315 λt320 w321=>
 Gd (isB false t313) (λkk=>Pu (bI .gtr t320 (iv 0)) λvv=>kk vv w321) w321 λt322 w323=>
 Pu (aL t313 (.bool true) t322) λt324=>
 St 6 w323 t3 t308 λu325 w326=>
 C307 w326 /\
 (qo (jq prog (λj=>bif Nat.beq j 2 then t3 else bif Nat.beq j 3 then t324 else undef) w326 [(ResultVar.cell 2 416),(ResultVar.tmp 3)]) w326 k)))))))
 (λj34=>
 LA 4 p1 w28 λt328 w329=>
 Pu (aC .string .neq t328 es) λt330=>
 IfB t330
 (LA 4 p1 w329 λt332 w333=>
 Cl prog 371 [t332] w333 λt334 w335=>
 X2 t334 λt336 t337=>
 New #[es,(iv 0),(iv 0)] 221 w335 λh338 w339=>
 St 3 w339 h338 t336 λu340 w341=>
 BI .neq t337 (iv 0)
 (LdN 6 w341 o5 λt343 w344=>
 St 6 w344 t3 t343 λu345 w346=>
 qo (jq prog (λj=>bif Nat.beq j 2 then t3 else bif Nat.beq j 3 then(.bool false) else undef) w346 [(ResultVar.cell 2 416),(ResultVar.tmp 3)]) w346 k)
 (LdN 3 w341 h338 λt347 w348=>
 SA 2 3 o5 w348 t347 λu350 w351=>
 SA 5 1 o5 w351 (.bool true) λu353 w354=>
 j34 [] w354))
 (j34 [] w329)))):Cl prog 349 [a] w k:=cE func349 h (lv:=(λj=>bif Nat.beq j 11 then[52] else[])) (jn:=(λj=>bif Nat.beq j 10 then some [] else bif Nat.beq j 22 then some [12] else none))
open M (Ent entOk sA fe eM)
theorem bind_some{α β:Type}{x:Option α}{f:α->Option β}{b:β}(h:(x >>= f)=some b):∃a,x=some a/\f a=some b:=Jl.1 h
theorem ak{b:Bool}{u:Unit}(h:M.gd b=some u):b=true:=by cases b;cases h;rfl
theorem E76:ElemT prog 76 221 3 32:=bG underlying76 kR
abbrev entL(e:Ent):List Value:=[stv e.key,iv e.page,iv e.slot]
abbrev opC(ve:Value):Array Value:=#[ve,.slice none 0 0,stv [],iv 0,iv 0,.bool false]
theorem oL:∀{l:List Bs} {p:Ent} {L:List Ent},M.entsGo p l=some L->L.length=l.length/\∀(i:Nat) s,l[i]?=some s->∃e,L[i]?=some e/\fe s=some e/\∀q,(p::L)[i]?=some q->eM q e<0
 | [],p,L,h=>by cases h;exact⟨rfl,sI⟩
 | s::l,p,L,h=>by
  rw[M.entsGo] at h;obtain⟨e,h1,h⟩:=bind_some h;obtain⟨_,h2,h⟩:=bind_some h;obtain⟨r,h3,h⟩:=bind_some h;cases h;have h2:=F9 (ak h2);obtain⟨g1,g2⟩:=oL h3;refine⟨by simp[g1],λi t ht=>?_⟩;cases i with
  | zero=>cases ht;exact⟨e,rfl,h1,λq hq=>by cases hq;exact h2⟩
  | succ i=>exact g2 i t ht
theorem qD{l:List Bs}{L:List Ent}(h:M.ents l=some L):L.length=l.length/\∀(i:Nat) s,l[i]?=some s->∃e,L[i]?=some e/\fe s=some e/\∀j q,i=j+1->L[j]?=some q->eM q e<0:=by
 cases l with
 | nil=>cases h;exact⟨rfl,sI⟩
 | cons s l=>
  rw[M.ents] at h;obtain⟨e,h1,h⟩:=bind_some h;obtain⟨r,h3,h⟩:=bind_some h;cases h;obtain⟨g1,g2⟩:=oL h3;refine⟨by simp[g1],λi t ht=>?_⟩;cases i with
  | zero=>cases ht;exact⟨e,rfl,h1,λj q hj=>oM⟩
  | succ i=>
   obtain⟨x,a1,a2,a3⟩:=g2 i t ht
   exact⟨x,a1,a2,λj q hj hq=>by obtain rfl:i=j:=oM
                                exact a3 q hq⟩
theorem kK{v:Value}(h:v.oneCell'=true):(opC v).toList.all Value.oneCell'=true:=by simp only[Ks,List.all_nil,h];rfl
theorem Ag(e:Ent):(entL e).length=3:=rfl
theorem xd{w:World}{v:Value}{n:Nat}{L:List Ent}(h:CellsAt w v n 3 (L.flatMap entL)){i:Nat}{e:Ent}(hi:L[i]?=some e)(hn:i<n):∃ad,ixV 3 v (iv i)=some (.pointer (some ad))/\blockOf v=some ad.block/\aI w ad 3=some (.agg (entC e)):=by obtain⟨ad,h1,h2,h3⟩:=h.at oM hn .i64;exact⟨ad,h1,h2,aN (l:=entL e) rfl λj hj=>by rw[h3 j hj,dD Ag hi hj]⟩
structure LeafOk (p : Pg) : Prop where
 er : (pEnc p).2 = 0
 len : p.items.length ≤ 255
 kind : p.kind = 3
 level : p.level = 0
 right : p.right = 0
 high : p.high = []
theorem AE{p:Pg}(h:pErr p=0):p.items.length<=255:=by
 unfold pErr at h;simp only[cond_eq_ite,C4] at h;split at h
 ·cases h
 ·split at h
  ·cases h
  ·omega
theorem ch{p:Pg}{L:List Ent}(h:M.opened p=some L):LeafOk p/\M.ents p.items=some L:=by unfold M.opened at h;obtain⟨_,h1,h⟩:=bind_some h;have h1:=ak h1;unfold M.leafOk at h1;simp only[E0,C4] at h1;obtain⟨⟨h1,h2,h3,h4⟩,h5⟩:=h1;exact⟨⟨by unfold pEnc;rw[h1];rfl,AE h1,h2,h3,h4,h5⟩,h⟩
end Go.Proofs.YtmdmffeoehfjgaaGreatDoor
