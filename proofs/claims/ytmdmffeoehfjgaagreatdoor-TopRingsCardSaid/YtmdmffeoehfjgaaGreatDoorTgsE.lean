/- Laid for one claim by slim.py out of: parts. -/
import Derived.Test.YtmdmffeoehfjgaaGreatDoorTgsD
set_option maxRecDepth 100000
set_option maxHeartbeats 0
set_option linter.unusedVariables false
set_option linter.unusedSimpArgs false
set_option linter.unusedSectionVars false
open Go.Proofs.Tryz (prog)
namespace Go.Proofs.YtmdmffeoehfjgaaGreatDoor
open Go.Al Go.Proofs
open Go.ChangeMaps (setBlock)
def pfz:Pf:=⟨pg0,0,false⟩
theorem Cz:∀k,k<8->(frC (pfz,nlv))[k]?=some ((frC (pfz,nlv)).toArray[k]!):=by
 intro k hk
 match k,hk with
 | 0,_=>rfl
 | 1,_=>rfl
 | 2,_=>rfl
 | 3,_=>rfl
 | 4,_=>rfl
 | 5,_=>rfl
 | 6,_=>rfl
 | 7,_=>rfl
theorem qV(n:Nat):madeCells (frC (pfz,nlv)).toArray (n*8)=((List.replicate n (pfz,nlv)).flatMap frC).toArray:=by
 apply Array.ext';apply List.ext_getElem?;intro j;have hsz:(frC (pfz,nlv)).toArray.size=8:=rfl;simp only[madeCells,Array.toList_map,Array.toList_range,List.getElem?_map,hsz];by_cases hj:j<n*8
 ·rw[List.getElem?_range hj];have h1:(List.replicate n (pfz,nlv))[j / 8]?=some (pfz,nlv):=by rw[List.getElem?_replicate,if_pos (by omega)]
  have h2:=dE cY h1 (j:=j % 8) (by omega);have h3:j / 8*8+j % 8=j:=by omega
  rw[h3] at h2;rw[h2,Cz _ (by omega)]
  rfl
 ·have hl:=flat_len cY (List.replicate n (pfz,nlv));rw[List.length_replicate] at hl;rw[List.getElem?_eq_none (l:=List.range (n*8)) (by rw[List.length_range];omega),List.getElem?_eq_none (by rw[hl];omega)]
  rfl
theorem CJ(w:World)(n:Nat)(h:n<=100000):(Instr.makeSlice 279 (iv n) (iv n)).run prog w=.ok (.slice (some ⟨w.heap.size,0,none⟩) n n) (w.alloc (.cells ((List.replicate n (pfz,nlv)).flatMap frC).toArray 283)):=by
 obtain⟨i,h1,h2,h3,h4⟩:=xr (P:=prog) (e:=283) (z:=.agg (frC (pfz,nlv)).toArray) (n:=8) (b:=88) (by kernel_rfl);have hr:=run_make (P:=prog) w 279 283 i _ Tryz.underlying279 h1 h2 .i64 .i64 n n (by omega) (Int.le_refl _) (by rw[h4];omega) (by omega);rw[hr];simp only[Int.toNat_natCast,h3];rw[<- qV]
 rfl
theorem Da{α:Type}(a b:α){i n:Nat}(h:i<n):(List.replicate i a++List.replicate (n - i) b).set i a=List.replicate (i+1) a++List.replicate (n - (i+1)) b:=by
 rw[List.set_append_right _ _ (by rw[List.length_replicate];exact Nat.le_refl _),List.length_replicate,Nat.sub_self,show n - i=(n - (i+1))+1 from by omega,List.replicate_succ,List.set_cons_zero,List.replicate_succ',List.append_assoc]
 rfl
theorem CZ{α:Type}(a b:α){i n:Nat}(h:i<n):(List.replicate i a++List.replicate (n - i) b)[i]?=some b:=by rw[List.getElem?_append_right (by rw[List.length_replicate];exact Nat.le_refl _),List.length_replicate,Nat.sub_self,List.getElem?_replicate,if_pos (by omega)]
theorem Eu(db lb fb ob n:Nat)(a b:Int)(w:World):(Instr.build 281 #[(0,pv db),(1,pv lb),(2,iv a),(3,iv b),(4,.slice (some ⟨fb,0,none⟩) n n),(5,.map (some ob))]).run prog w=.ok (.agg #[pv db,pv lb,iv a,iv b,.slice (some ⟨fb,0,none⟩) n n,.map (some ob)]) w:=by kernel_rfl
def sN(d:Dk)(frm pages frames:Int):Bool:=decide (frames<1)||(decide (1024<frames)||(decide (pages<1)||(decide (8192<pages)||(decide (frm<0)||decide ((d.cur.length:Int) - 8*pages<frm)))))
def um(frm pages frames:Int):Pl:=⟨frm.toNat,pages.toNat,List.replicate frames.toNat pf0,[]⟩
theorem ye{w:World}{b g m:Nat}{d:Dk}(h:DAt w b g m d)(lb:Nat)(frm pages frames:Int)(hi:In frm):Cl prog 81 [pv b,pv lb,iv frm,iv pages,iv frames] w λv w'=>Fm (λ_=>False) w w' /\
  ((sN d frm pages frames=true/\v=.tuple #[.pointer none,iv 1])\/(sN d frm pages frames=false/\∃pb fb ob X F,v=.tuple #[pv pb,iv 0]/\PIn w' X (λ_=>False) pb lb b fb ob F (um frm pages frames)/\(um frm pages frames).Wf/\∀y,X y->w.heap.size<=y)):=by
 have hn:=h.wf.n1;unfold sN;refine c81 ?_;cases h1:decide (frames<1) with
 | true=>simp only[RS,h1,Bool.true_or];exact⟨Fm.refl _ _,.inl ⟨(by trivial),(by trivial)⟩⟩
 | false=>
 cases h2:decide (1024<frames) with
 | true=>simp only[RS,h1,h2,Bool.true_or,Bool.false_or];exact⟨Fm.refl _ _,.inl ⟨(by trivial),(by trivial)⟩⟩
 | false=>
 cases h3:decide (pages<1) with
 | true=>simp only[RS,h1,h2,h3,Bool.true_or,Bool.false_or];exact⟨Fm.refl _ _,.inl ⟨(by trivial),(by trivial)⟩⟩
 | false=>
 cases h4:decide (8192<pages) with
 | true=>simp only[RS,h1,h2,h3,h4,Bool.true_or,Bool.false_or];exact⟨Fm.refl _ _,.inl ⟨(by trivial),(by trivial)⟩⟩
 | false=>
 cases h5:decide (frm<0) with
 | true=>simp only[RS,h1,h2,h3,h4,h5,Bool.true_or,Bool.false_or];exact⟨Fm.refl _ _,.inl ⟨(by trivial),(by trivial)⟩⟩
 | false=>
 simp only[RS,h1,h2,h3,h4,h5,Bool.false_or];rw[decide_eq_false_iff_not] at h1 h2 h3 h4 h5;refine(cH h).mono ?_;rintro _ w ⟨rfl,rfl⟩;have e1:IntKind.i64.wrap (8*pages)=8*pages:=by rw[af];omega
 have e2:IntKind.i64.wrap ((d.cur.length:Int) - 8*pages)=(d.cur.length:Int) - 8*pages:=by rw[af];omega
 simp only[RS,e1,e2];cases h6:decide ((d.cur.length:Int) - 8*pages<frm) with
 | true=>simp only[RS,h6];exact⟨Fm.refl _ _,.inl ⟨(by trivial),(by trivial)⟩⟩
 | false=>
 simp only[RS,h6];rw[decide_eq_false_iff_not] at h6;obtain⟨n,rfl⟩:=Int.eq_ofNat_of_zero_le (show 0<=frames by omega);obtain⟨pg,rfl⟩:=Int.eq_ofNat_of_zero_le (show 0<=pages by omega);obtain⟨fr,rfl⟩:=Int.eq_ofNat_of_zero_le (show 0<=frm by omega);have hwf:(um (fr:Int) (pg:Int) (n:Int)).Wf:=⟨by show 1<=(List.replicate (Int.toNat (n:Int)) pf0).length/\(List.replicate (Int.toNat (n:Int)) pf0).length<=1024;rw[List.length_replicate];omega,by show 1<=Int.toNat (pg:Int)/\Int.toNat (fr:Int)+8*Int.toNat (pg:Int)<=65536;omega,λf hf=>.inl (by rw[List.eq_of_mem_replicate hf];rfl)⟩;refine ag (CJ _ n (by omega)) ?_;have hf1:=Fm.alloc (λ_=>False) w (.cells ((List.replicate n (pfz,nlv)).flatMap frC).toArray 283);have hn1:=aA w (.cells ((List.replicate n (pfz,nlv)).flatMap frC).toArray 283);have hs1:=aF w (.cells ((List.replicate n (pfz,nlv)).flatMap frC).toArray 283);generalize w.alloc (.cells ((List.replicate n (pfz,nlv)).flatMap frC).toArray 283)=w1 at hf1 hn1 hs1;refine ag (bf _ _) ?_;have hM:=MapAt.empty w1 iv iv;have hf2:=Fm.alloc (λ_=>False) w1 (.map #[] 0);have hs2:=aF w1 (.map #[] 0);generalize w1.alloc (.map #[] 0)=w2 at hM hf2 hs2;refine ag (Eu b lb w.heap.size w1.heap.size n _ _ _) ?_;refine ae ?_;intro pb w3 hpb hs3 hw3 hf3;have hM3:=hM.keep hf3 id;have hfr3:=hf3.heap (hf2.heap hn1 id) id;have hF3:=Fmf hf1 (Fmf hf2 hf3);have c4:w3.cell? ⟨pb,4,none⟩=some (.slice (some ⟨w.heap.size,0,none⟩) n n):=by rw[ab hw3];rfl
 simp only[RS,c4];refine⟨λvs w'=>∃i:Nat,vs=[iv (i:Int)]/\i<=n/\w'.heap[w.heap.size]?=some (.cells ((List.replicate i (pf0,nlv)++List.replicate (n - i) (pfz,nlv)).flatMap frC).toArray 283)/\Fm (λy=>y=w.heap.size) w3 w',λvs _=>(n - nth vs 0).toNat,⟨0,rfl,by omega,by rw[Nat.sub_zero];exact hfr3,Fm.refl _ _⟩,?_⟩;rintro _ w4 ivv ⟨i,hvs,hi,hfr4,hf4⟩;cases hvs;have c4':w4.cell? ⟨pb,4,none⟩=some (.slice (some ⟨w.heap.size,0,none⟩) n n):=hf4.j6 c4 (show ¬pb=_ by omega);by_cases hl:i<n
 ·have d1:decide ((i:Int)<(n:Int))=true:=by rw[decide_eq_true_eq];omega
  have ei:IntKind.i64.wrap ((i:Int)+1)=((i+1:Nat):Int):=by rw[af]<;>omega
  simp only[RS,d1,c4',PIn.ix i hl w.heap.size];refine au hfr4 (j:=i*8+6) (by rw[List.size_toArray,flat_len cY,List.length_append,List.length_replicate,List.length_replicate];omega) rfl ?_;intro w5 hw5 hs5 hf5;have hset:=gZ cY (y:=(pf0,nlv)) (u:=iv (-1)) (CZ (pf0,nlv) (pfz,nlv) hl) (j:=6) (by omega) rfl;rw[List.setIfInBounds_toArray,<- hset,Da _ _ hl] at hw5;simp only[RS,ei];exact⟨⟨i+1,rfl,by omega,hw5,hf4.trans hf5 iT iT⟩,by simp only[ba];omega⟩
 ·have hie:i=n:=by omega
  subst hie;have d1:decide ((i:Int)<(i:Int))=false:=by simp
  simp only[RS,d1];rw[Nat.sub_self,List.replicate_zero,List.append_nil] at hfr4;refine⟨Fm.own hF3 hf4 (by rintro y rfl;exact Nat.le_refl _),.inr ⟨(by trivial),pb,w.heap.size,w1.heap.size,λy=>y=pb\/y=w.heap.size\/y=w1.heap.size,List.replicate i (pf0,nlv),(by trivial),⟨?_,hfr4,hM3.keep hf4 (show ¬w1.heap.size=_ by omega),?_,?_,⟨.inl rfl,.inr (.inl rfl),.inr (.inr rfl),λy e=>e.elim⟩,⟨λe=>e,λe=>e,λe=>e⟩,?_⟩,hwf,?_⟩⟩
  ·rw[List.length_replicate];exact hf4.heap hw3 (show ¬pb=_ by omega)
  ·show(List.replicate i (pf0,nlv)).map (·.1)=List.replicate (Int.toNat (i:Int)) pf0;rw[List.map_replicate,Int.toNat_natCast]
  ·intro x hx;rw[List.eq_of_mem_replicate hx];exact HeldP.zero _ _
  ·have:=hf4.size;rintro y (rfl|rfl|rfl)<;>omega
  ·rintro y (rfl|rfl|rfl)<;>omega
theorem Er(z:Int)(w:World):(Instr.build 97 #[(0,iv 0),(1,iv 64),(2,iv z)]).run prog w=.ok (.agg #[iv 0,iv 64,iv z]) w:=by kernel_rfl
theorem tR{w:World}{b g m:Nat}{d:Dk}(h:DAt w b g m d):Cl prog 26 [pv b] w λv w'=>w'.ownsRow w.heap.size 3 1 v d.pend.length (d.pend.map λi=>iv (i:Nat))/\(v=.slice none 0 0↔d.pend=[])/\Fm (λ_=>False) w w':=by
 have hn:=h.wf.n1;obtain⟨M,hM,hi⟩:=h.mp;have hmem:∀k,k∈M.map (·.1)↔k∈d.pend.map λi:Nat=>(i:Int):=by
  intro k;rw[List.mem_map,List.mem_map];constructor
  ·rintro⟨⟨k',x⟩,hp,rfl⟩;obtain⟨i,rfl,hc,_⟩:=(hi _ _).1 hp;exact⟨i,(Dk.pend_mem h.wf).2 hc,rfl⟩
  ·rintro⟨i,hp,rfl⟩;have hc:=(Dk.pend_mem h.wf).1 hp;have hlt:i<d.old.length:=by rw[h.wf.lo,<- h.wf.lc];exact Dk.isC_lt hc
   exact⟨((i:Int),d.old[i]),(hi _ _).2 ⟨i,rfl,hc,List.getElem?_eq_getElem hlt⟩,rfl⟩
 have hpr:(d.pend.map λi:Nat=>(i:Int)).Pairwise (· < ·):=by rw[List.pairwise_map];exact(Dk.pend_rises d).imp λh=>by omega
 have hsk:gh M=d.pend.map λi:Nat=>(i:Int):=by
  refine Dk.rising_eq ?_ hpr ?_
  ·have h1:(gh M).Pairwise (λx y=>decide (x<=y)=true):=List.pairwise_mergeSort (λa b c h1 h2=>by simp at *;omega) (λa b=>by simp;omega) _;have h2:(gh M).Nodup:=by rw[gh];exact(List.mergeSort_perm _ _).nodup_iff.2 hM.keys
   exact(h1.and h2).imp λ⟨h,hn⟩=>by simp at h;omega
  ·intro x;rw[<- hmem];unfold gh;exact List.mem_mergeSort
 have hlen:M.length=d.pend.length:=by have:=congrArg List.length hsk;rw[gh,List.length_mergeSort,List.length_map,List.length_map] at this;exact this
 have hpl:=Dk.pend_len d;have hwf:∀p∈M,(Lit.int .i64 p.1).wf=true:=by rintro⟨k,x⟩ hp;obtain⟨i,rfl,hc,_⟩:=(hi _ _).1 hp;have:=Dk.isC_lt hc;rw[h.wf.lc] at this;show(decide (-9223372036854775808<=(i:Int))&&decide ((i:Int)<=9223372036854775807))=true;simp;omega
 refine c26 ?_;simp only[RS,h.c1];refine(ui (some m) w).mono ?_;rintro _ _ ⟨rfl,rfl⟩;refine(pT hM hwf (by omega)).mono ?_;rintro v w' ⟨h1,h2,h3⟩;rw[hlen,hsk] at h1;refine⟨?_,?_,h3⟩
 ·rw[List.map_map] at h1;exact h1
 ·rw[h2,<- List.length_eq_zero_iff,hlen,List.length_eq_zero_iff]
theorem Aj{f:Int}(h:0<=f):ixG false 3 1 (.agg #[iv 0,iv 64,iv (f / 3 % 65)]) (iv (f % 3))=some (iv (Dk.kept f:Nat)):=by
 have h1:f % 3=0\/f % 3=1\/f % 3=2:=by omega
 unfold Dk.kept;rcases h1 with h1|h1|h1
 ·rw[h1];rfl
 ·rw[h1];rfl
 ·rw[h1];have:0<=f / 3 % 65:=by omega
  show some (iv (f / 3 % 65))=_;rw[if_neg (by decide),if_neg (by decide),Int.toNat_of_nonneg this]
theorem xJ{f:Int}:aP (iv f) (iv (-(f+1)))=some (iv (Dk.fold1 f)):=by show some (iv (if -(f+1) > f then -(f+1) else f))=_;unfold Dk.fold1;congr 2;split<;>split<;>omega
theorem qA{w:World}{b g m:Nat}{d:Dk}(h:DAt w b g m d){hv:Value}{L:List Int}(hL:CellsAt w hv L.length 1 (L.map iv))(hLb:L≠[]->∀q,blockOf hv=some q->q≠b/\q≠g/\q≠m)
  (hr:∀f∈L,-9223372036854775808<=f/\f<=9223372036854775807):
  Cl prog 17 [pv b,hv] w λv w'=>v=.tuple #[]/\DAt w' b g m (d.crash L)/\Fm (λx=>x=b\/x=g\/x=m) w w':=by
 have hn:=h.wf.n1;refine c17 ?_;simp only[RS];refine(tR h).mono ?_;rintro pv' w3 ⟨hrow,hnil,hf3⟩;have h3:=h.aS hf3;have hlt:=h.lt;have hplen:=qY hrow;have hpl:=Dk.pend_len d;simp only[RS,hplen];refine⟨λvs w2=>∃k:Nat,vs=[iv k]/\k<=d.pend.length/\DAt w2 b g m (d.mid L k)/\Fm (λx=>x=b\/x=g\/x=m) w3 w2,λvs _=>(d.pend.length - nth vs 0).toNat,⟨0,rfl,by omega,by rw[Dk.mid_zero];exact h3,Fm.refl _ _⟩,?_⟩;rintro _ w2 ik ⟨k,hvs,hk,hE,hf⟩;cases hvs;have hF:Fm (λx=>x=b\/x=g\/x=m) w w2:=hf3.trans hf iE iT;have hln:=Dk.mid_len L d k;by_cases hlt2:k<d.pend.length
 ·have e1:decide ((k:Int)<(d.pend.length:Int))=true:=by simpa using hlt2
  have hPk:d.pend[k]?=some d.pend[k]:=List.getElem?_eq_getElem hlt2;generalize d.pend[k]=i at hPk;obtain⟨hi1,hi2,hi3,hi4⟩:=Dk.mid_step (how:=L) hPk;have hrow2:=ah hrow hf (λq hq _ _=>by omega);obtain⟨ad,hix,_,hc⟩:=(CellsAt.aT hrow2).j4 (i:=k) (x:=iv (i:Nat)) (by rw[List.getElem?_map,hPk];rfl) .i64;simp only[RS,e1,hix,hc];refine aJ (λvs w4=>vs=[iv (Dk.fate L k)]/\(w4=w2\/w4=w2.drew)) ?_ ?_
  ·rintro _ w4 ⟨rfl,hw4⟩ _;refine⟨_,rfl,?_⟩;have hF4:Fm (λ_=>False) w2 w4:=by rcases hw4 with rfl|rfl;exact Fm.refl _ _;exact Fm.drew _ _
   have hE4:=hE.aS hF4;clear hw4;have hfp:=Dk.fate_pos hr k;generalize hfe:Dk.fate L k=f at hfp hi4;have q1:=jb (TypeDesc.int .i64) (a:=f) (b:=3) hfp.1 (by decide) hfp.2;have q2:=nL (TypeDesc.int .i64) (a:=f / 3) (b:=65) (by omega) (by decide) (by omega);have q3:=nL (TypeDesc.int .i64) (a:=f) (b:=3) hfp.1 (by decide) hfp.2;have q4:=Aj hfp.1;simp only[RS,q1,q2];refine ag (Er _ _) ?_;simp only[RS,q3,q4];have hkl:=Dk.kept_le f;obtain⟨M,hM,hmem⟩:=hE4.mp;have hil:i<d.old.length:=by rw[h.wf.lo];exact hi1
   have hold:d.old[i]?=some (d.old.getD i []):=Dk.getD_eq hil;have hget:getD M (i:Int)=some (d.old.getD i []):=(getD_some hM.keys).2 ((hmem _ _).2 ⟨i,rfl,hi3,hold⟩);have ho64:=h.wf.r8 hi1;refine⟨λw'=>w'.cell? ⟨b,1,none⟩=some (.map (some m))/\MapAt w' m iv stv M,⟨hE4.c1,hM.keep (Fm.drew (λ_=>False) w4) id⟩,?_⟩;refine⟨.map (some m),λw' hw'=>by simp only[RS,hw'.1];exact⟨(by trivial),(by trivial)⟩,?_⟩;refine⟨stv (d.old.getD i []),λw' hw'=>?_,?_⟩
   ·refine ag (aW Gq hw'.2 (i:Int) false (z9 _)) ?_;simp only[hget,okV,cond_false];exact⟨(by trivial),(by trivial)⟩
   have hsl:=eT (l:=d.old.getD i []) (i:=Dk.kept f) (by omega) .i64;simp only[RS,hsl];have hE4d:=hE4.drew;refine(jh hE4d (by rw[hln];exact hi1)).mono ?_;rintro _ _ ⟨rfl,rfl⟩;refine⟨⟨hE4.c1,hM.keep (Fm.drew (λ_=>False) w4) id⟩,?_⟩;have hfl:=Dk.flat_len hE4.wf.s1;rw[hln] at hfl ⊢;obtain⟨o',hs,ho,hole⟩:=yM (g:=g) (o:=64*i) (n:=64) (c:=64*d.cur.length - 64*i) (i:=Dk.kept f) hkl (by omega) .i64;simp only[RS,hs];have hxl:((d.old.getD i []).drop (Dk.kept f)).length=64 - Dk.kept f:=by rw[List.length_drop];omega
   obtain⟨w5,hr5,hby5,hs5,hf5⟩:=hE4d.by_.v8 B44 (o:=o') (n:=64 - Dk.kept f) (x:=(d.old.getD i []).drop (Dk.kept f)) (by omega) (by rw[hfl];omega) (64*d.cur.length - 64*i - Dk.kept f) 3;refine ag hr5 ?_;have hf25:Fm (·=g) w4 w5:=(Fm.drew (λ_=>False) w4).trans hf5 iE iT;have hrow5:BRow w5 g 5 (Dk.mid L d (k+1)).cur.flatten:=by
    rw[hi4];by_cases hk64:Dk.kept f<64
    ·have ho':=ho (by omega);rw[hxl,ho',show 64*i+Dk.kept f+(64 - Dk.kept f)=64*i+64 by omega,Dk.flat_lay hE4.wf.s1 (by rw[hln];exact hi1) hkl hxl,hi2] at hby5;exact hby5
    ·have hke:Dk.kept f=64:=by omega
     have hx0:(d.old.getD i []).drop (Dk.kept f)=[]:=List.eq_nil_of_length_eq_zero (by rw[hxl];omega);rw[hx0] at hby5;simp only[List.append_nil,List.length_nil,Nat.add_zero,List.take_append_drop] at hby5;have:Dk.torn f (d.cur.getD i []) (d.old.getD i [])=(Dk.mid L d k).cur.getD i []:=by rw[Dk.torn,hx0,hke,List.append_nil,hi2,List.take_of_length_le (by rw[h.wf.oR hi1];omega)]
     rw[this];have hset:(Dk.mid L d k).cur.set i ((Dk.mid L d k).cur.getD i [])=(Dk.mid L d k).cur:=by
      apply List.ext_getElem?;intro j;rw[List.getElem?_set];split
      ·rename_i e;subst e;rw[if_pos (by rw[hln];exact hi1)];exact(Dk.getD_eq (by rw[hln];exact hi1)).symm
      ·rfl
     rw[hset];exact hby5
   have hM5:=hM.keep hf25 (λe=>hE4.gm e.symm);have hst5:=hf25.heap hE4.st hE4.bg;have g4:IntKind.i64.wrap ((k:Int)+1)=((k+1:Nat):Int):=by rw[af]<;>omega
   simp only[RS,g4];refine⟨⟨k+1,rfl,by omega,⟨h.wf.mid L (k+1),?_,hrow5,M,hM5,hmem⟩,?_⟩,by simp only[ba];omega⟩
   ·rw[hln] at hst5;rw[Dk.mid_len];exact hst5
   ·exact(hf.trans hF4 (U:=λx=>x=b\/x=g\/x=m) iT iE).trans hf25 iT (λ_ _ e=>.inr (.inl e))
  ·intro kk hkk;have hL2:=hL.gE hF (λhx q hq=>by have:=hLb (λe=>hx (by rw[e];rfl)) q hq;omega);simp only[RS,hL2.lenV];by_cases hkL:k<L.length
   ·have e2:decide ((k:Int)<(L.length:Int))=true:=by simpa using hkL
    have hLk:L[k]?=some L[k]:=List.getElem?_eq_getElem hkL;have hin:=hr _ (List.getElem_mem hkL);generalize L[k]=f at hLk hin;obtain⟨ad2,hix2,_,hc2⟩:=hL2.j4 (i:=k) (x:=iv f) (by rw[List.getElem?_map,hLk];rfl) .i64;have hfa:Dk.fate L k=Dk.fold1 f:=by unfold Dk.fate;rw[hLk]
    simp only[RS,e2,hix2,hc2,DJ hin,az,aR,xJ,Option.bind_some,true_and];exact hkk _ _ ⟨by rw[hfa],.inr rfl⟩
   ·have e2:decide ((k:Int)<(L.length:Int))=false:=by simpa using hkL
    have hfa:Dk.fate L k=0:=by unfold Dk.fate;rw[List.getElem?_eq_none (by omega)]
    simp only[RS,e2];exact hkk _ _ ⟨by rw[hfa],.inl rfl⟩
 ·have hke:k=d.pend.length:=by omega
  subst hke;have e1:decide ((d.pend.length:Int)<(d.pend.length:Int))=false:=by simp
  simp only[RS,e1,hE.c1];obtain⟨M,hM,_⟩:=hE.mp;obtain⟨w4,hr4,hM4,hf4,_⟩:=oB Tryz.underlying99 hM 0;refine ag hr4 ?_;have hst4:=hf4.heap hE.st hE.bm;refine au hst4 (by simp) rfl ?_;intro w5 hw5 hs5 hf5;refine au hw5 (by simp) rfl ?_;intro w6 hw6 hs6 hf6;have hlen:(Dk.mended L d).length=d.cur.length:=Dk.mended_len L d;have hby6:=((hE.by_.keep hf4 hE.gm).keep hf5 (λe=>hE.bg e.symm)).keep hf6 (λe=>hE.bg e.symm);rw[Dk.mid_end] at hby6;have hM6:=(hM4.keep hf5 (λe=>hE.bm e.symm)).keep hf6 (λe=>hE.bm e.symm);have hF6:Fm (λx=>x=b\/x=g\/x=m) w w6:=((hF.trans hf4 (U:=λx=>x=b\/x=g\/x=m) iT (λ_ _ e=>.inr (.inr e))).trans hf5 (U:=λx=>x=b\/x=g\/x=m) iT (λ_ _ e=>.inl e)).trans hf6 iT (λ_ _ e=>.inl e);refine⟨(by trivial),⟨h.wf.crash L,?_,hby6,[],hM6,?_⟩,hF6⟩
  ·rw[hln] at hw6;show w6.heap[b]?=some (.cells #[.slice (some ⟨g,0,none⟩) (64*(Dk.mended L d).length) (64*(Dk.mended L d).length),.map (some m),iv 0,.bool false,iv d.done] 101);rw[hlen];exact hw6
  ·intro k x;constructor
   ·intro e;cases e
   ·rintro⟨i,_,hc,_⟩;have:=Dk.isC_rep d.cur.length i;rw[show(d.crash L).chg=List.replicate d.cur.length false from rfl,this] at hc;cases hc
structure DkL where
 o : Nat
 n : Nat
 c : Nat
 co : Nat
 cn : Nat
 cc : Nat
structure DkAt (w : World) (b : Nat) (q : DkL) (d : Dk) : Prop where
 st : w.heap[b]? = some (.cells #[.slice (some ⟨q.o, 0, none⟩) d.old.length q.co, .slice (some ⟨q.n, 0, none⟩) d.cur.length q.cn, .slice (some ⟨q.c, 0, none⟩) d.chg.length q.cc, iv d.armed, .bool d.gone, iv d.done] 93)
 ro : PRow w q.o 9 (d.old.map stv)
 rn : PRow w q.n 9 (d.cur.map stv)
 rc : PRow w q.c 4 (d.chg.map Value.bool)
 ne : b ≠ q.o ∧ b ≠ q.n ∧ b ≠ q.c ∧ q.o ≠ q.n ∧ q.o ≠ q.c ∧ q.n ≠ q.c
section
variable{w:World}{b:Nat}{q:DkL}{d:Dk}(h:DkAt w b q d)
include h
end
theorem qQ:∀(l:List Int) (a b:Int),a<=b->(∀x∈l,a<=x/\x<b)->l.Pairwise (· < ·)->(l.length:Int)<=b - a
 | [],a,b,hab,_,_=>by simp;omega
 | x::l,a,b,hab,h,hp=>by have hx:=h x (by simp);rw[List.pairwise_cons] at hp;have:=qQ l (x+1) b (by omega) (λy hy=>⟨by have:=hp.1 y hy;omega,(h y (by simp[hy])).2⟩) hp.2;rw[List.length_cons];omega
section
variable{w w':World}{S:Nat->Prop}{b0 lb db:Nat}{v:Value}{L L':Lg}
end
theorem getD_cons(x:Int×Int)(D:List (Int×Int))(m:Int):getD (x::D) m=if x.1=m then some x.2 else getD D m:=by unfold getD;by_cases h:x.1=m<;>simp[List.find?_cons,h]
section
variable{w w':World}{Q S Y P:Nat->Prop}{b0 pb lb db fb cap:Nat}{q:DkL}{v vT:Value}{F:List PV}{ys:List Value}{s:PS}{p:Pl}
end
section
variable{w0 w w':World}{Y S:Nat->Prop}{pb lb db:Nat}{s:PS}
end
abbrev OpP:=Int×Int×Int×PgT×Unit
section
variable{w w':World}{S:Nat->Prop}{x:Nat}{o:OpP}{u:Value}
end
theorem qS{D D':List (Int×Int)}(h:∀n,getD D n=getD D' n):∀x,x∈D.map (·.1)↔x∈D'.map (·.1):=by
 intro x;have h1:=getD_none (D:=D) (a:=x);have h2:=getD_none (D:=D') (a:=x);rw[h x] at h1;constructor
 ·intro hx;exact Classical.byContradiction λhn=>h1.1 (h2.2 hn) hx
 ·intro hx;exact Classical.byContradiction λhn=>h2.1 (h1.2 hn) hx
theorem nu:∀{D:List (Int×Int)},(D.map (·.1)).Pairwise (· < ·)->∀{i:Nat} {x:Int×Int},D[i]?=some x->getD D x.1=some x.2
 | [],_,i,x,h=>by simp at h
 | y::D,hp,0,x,h=>by simp at h;subst h;rw[getD_cons,if_pos rfl]
 | y::D,hp,i+1,x,h=>by
  rw[List.map_cons,List.pairwise_cons] at hp;have hx:D[i]?=some x:=by simpa using h
  have:=hp.1 x.1 (List.mem_map.2 ⟨x,List.mem_of_getElem? hx,rfl⟩);rw[getD_cons,if_neg (by omega)];exact nu hp.2 hx
theorem ri{w:World}{X Q:Nat->Prop}{pb lb db fb ob:Nat}{F:List PV}{p:Pl}(h:PIn w X Q pb lb db fb ob F p){D:List (Int×Int)}(hg:∀n,getD p.owed n=getD D n)(hinc:(D.map (·.1)).Pairwise (· < ·))(hrng:∀x∈D,0<=x.1/\x.1<8192):
  Cl prog 99 [pv pb] w λr w'=>w'.ownsRow w.heap.size 189 2 r D.length (D.flatMap pc2)/\Fm (λ_=>False) w w':=by
 have hM:=h.mp;have hmem:=qS hg;have hsk:gh p.owed=D.map (·.1):=by
  refine Dk.rising_eq ?_ hinc ?_
  ·have h1:(gh p.owed).Pairwise (λx y=>decide (x<=y)=true):=List.pairwise_mergeSort (λa b c h1 h2=>by simp at *;omega) (λa b=>by simp;omega) _;have h2:(gh p.owed).Nodup:=by rw[gh];exact(List.mergeSort_perm _ _).nodup_iff.2 hM.keys
   exact(h1.and h2).imp λ⟨h,hn⟩=>by simp at h;omega
  ·intro x;rw[<- hmem];unfold gh;exact List.mem_mergeSort
 have hlen:p.owed.length=D.length:=by have:=congrArg List.length hsk;rw[gh,List.length_mergeSort,List.length_map,List.length_map] at this;exact this
 have hDl:D.length<=8192:=by have:=qQ (D.map (·.1)) 0 8192 (by omega) (λx hx=>by obtain⟨q,hq,rfl⟩:=List.mem_map.1 hx;exact hrng q hq) hinc;rw[List.length_map] at this;omega
 have hwf:∀q∈p.owed,(Lit.int .i64 q.1).wf=true:=by intro q hq;obtain⟨x,hx,e⟩:=List.mem_map.1 ((hmem q.1).1 (List.mem_map.2 ⟨q,hq,rfl⟩));have:=hrng x hx;show(decide (-9223372036854775808<=q.1)&&decide (q.1<=9223372036854775807))=true;simp;omega
 refine c99 ?_;simp only[RS,h.c5];refine(ml (some ob) w).mono ?_;rintro _ _ ⟨rfl,rfl⟩;refine(jt hM hwf (by omega)).mono ?_;rintro v w2 ⟨h1,_,hF2⟩;rw[hlen,hsk,List.map_map] at h1;have hcA:=CellsAt.aT h1;have z2:=hF2.size;have hlv:=hcA.lenV;simp only[RS,hlv];refine⟨λvs w3=>∃(i:Nat) (u:Value),vs=[u,iv (i:Int)]/\i<=D.length/\w3.ownsRow w2.heap.size 189 2 u i ((D.take i).flatMap pc2)/\Fm (λ_=>False) w2 w3,λvs _=>(D.length - nth vs 1).toNat,⟨0,_,rfl,by omega,by simpa using World.ownsRow_nil w2 _ _ _,Fm.refl _ _⟩,?_⟩;rintro _ w3 u ivv ⟨i,_,hvs,hi,ho3,hF3⟩;cases hvs;have h3:=h.aS (Fmf hF2 hF3);by_cases hl:i<D.length
 ·have d1:decide ((i:Int)<(D.length:Int))=true:=by rw[decide_eq_true_eq];omega
  have e1:IntKind.i64.wrap ((i:Int)+1)=((i+1:Nat):Int):=by rw[af]<;>omega
  have hx:D[i]?=some D[i]:=List.getElem?_eq_getElem hl;generalize D[i]=x at hx;have hgx:getD p.owed x.1=some x.2:=by rw[hg];exact nu hinc hx
  obtain⟨ad,q1,_,q2⟩:=(hcA.keep hF3 iT).j4 (i:=i) (x:=iv x.1) (by rw[List.getElem?_map,hx];rfl) .i64;simp only[RS,d1,q1,q2,h3.c5];have hlk:=aW FK h3.mp x.1 false (z:=iv 0) (by kernel_rfl);rw[hgx] at hlk;refine ag hlk ?_;simp only[okV,cond_false];refine ag (Ev _ _ _) ?_;refine dp Ho (by omega) 166 (cs:=pc2 x) rfl (Hs _ _ _) (by intro u hu;simp[pc2] at hu;rcases hu with rfl|rfl<;>rfl) ho3 (by unfold maxLen;omega) (by omega) hF3.size ?_;intro u4 w4 ho4 _ hf4;simp only[RS,e1];refine⟨⟨i+1,u4,rfl,by omega,?_,Fm.own hF3 hf4 (λy hy=>hy)⟩,by simp only[cN];omega⟩;rw[List.take_add_one,hx,List.flatMap_append];simpa using ho4
 ·have hie:i=D.length:=by omega
  subst hie;have d1:decide (((D.length:Nat):Int)<(D.length:Int))=false:=by simp
  rw[List.take_length] at ho3;simp only[RS,d1];exact⟨aU ho3 z2,Fmf hF2 hF3⟩
namespace M
abbrev O:=Option
def gd(b:Bool):O Unit:=bif b then some () else none
def idOk(m x:Int):Bool:=decide (1<=x/\x<=m)
def xAdd(m x n:Int):Int:=bif idOk m x then(x - 1+n % m) % m+1 else 0
def xGap(m a b:Int):Int:=bif idOk m a&&idOk m b then(b - a) % m else 0
def xBefore(m a b:Int):Bool:=decide (0<xGap m a b)&&decide (xGap m a b<m / 2)
structure Tu where
 xmin : Int
 xmax : Int
 key : Bs
 val : Bs
def keyOk(k:Bs):Bool:=decide (0<k.length/\k.length<=24)
def tu(t:Tu):Bool:=decide (1<=t.xmin/\t.xmin<=1024/\0<=t.xmax/\t.xmax<=1024/\t.val.length<=64)&&keyOk t.key
def dM(t:Tu):Bs:=eX 1 1++eX t.xmin 2++eX t.xmax 2++(iM t.key++iM t.val)
def deadB(k:Bs):Bs:=bG 4++iM k
def tuRd(s:Bs):Bs×Bs×St2:=((rt 24 (s.drop 5,0)).1,(rt 64 (rt 24 (s.drop 5,0)).2).1,(rt 64 (rt 24 (s.drop 5,0)).2).2)
def fH(s:Bs):O Tu:=bif decide (5<=s.length)&&decide ((s.getD 0 0).toNat=1)&&decide (vy (tuRd s).2.2.1 (tuRd s).2.2.2=0)&&decide (ofN ((s.drop 1).take 2)≠0/\ofN ((s.drop 1).take 2)<=1024/\ofN ((s.drop 3).take 2)<=1024/\(tuRd s).1≠[]) then some ⟨ofN ((s.drop 1).take 2),ofN ((s.drop 3).take 2),(tuRd s).1,(tuRd s).2.1⟩ else none
def tuAt(s:Bs):O (O Tu):=bif decide (s.length<5) then some none else(fH s).map some
structure Ent where
 key : Bs
 page : Int
 slot : Int
 deriving DecidableEq
def ent0:Ent:=⟨[],0,0⟩
def entOk(e:Ent):Bool:=decide (1<=e.key.length/\e.key.length<=24/\0<=e.page/\e.page<=65535/\0<=e.slot/\e.slot<=65535)
def sA(e:Ent):Bs:=iM e.key++(bG e.page++bG e.slot)
def fh(s:Bs):O Ent:=
 let a:=rt 24 (s,0);let b:=rn 65535 a.2;let c:=rn 65535 b.2
 bif decide (vy c.2.1 c.2.2=0)&&entOk ⟨a.1,b.1,c.1⟩ then some ⟨a.1,b.1,c.1⟩ else none
def cmpB:Bs->Bs->Int
 | [],[]=>0
 | [],_::_ => -1
 | _::_,[]=>1
 | x::a,y::b=>bif decide (x.toNat<y.toNat) then -1 else bif decide (y.toNat<x.toNat) then 1 else cmpB a b
def vu(a b:Int):Int:=bif decide (a<b) then -1 else bif decide (b<a) then 1 else 0
def eP(a b:Ent):Int:=bif decide (cmpB a.key b.key≠0) then cmpB a.key b.key else bif decide (vu a.page b.page≠0) then vu a.page b.page else vu a.slot b.slot
def entsGo:Ent->List Bs->O (List Ent)
 | _,[]=>some []
 | p,s::l=>do
  let e <- fh s
  gd (decide (eP p e<0))
  let r <- entsGo e l
  some (e::r)
def ents(l:List Bs):O (List Ent):=match l with
 | []=>some []
 | s::l=>do
  let e <- fh s;let r <- entsGo e l
  some (e::r)
def leafOk(p:Pg):Bool:=decide (pErr p=0)&&decide (p.kind=3/\p.level=0/\p.right=0)&&decide (p.high=[])
def opened(p:Pg):O (List Ent):=do gd (leafOk p);ents p.items
def below(to_ k:Bs):Bool:=decide (to_=[])||decide (cmpB k to_<0)
def hits(p:Pg)(from_ to_:Bs):O (List Ent):=do
 let l <- opened p
 some (l.filter λe=>decide (0<=cmpB e.key from_)&&below to_ e.key)
def bsGo(l:List Ent)(e:Ent):Nat->Nat->Nat->Nat
 | 0,i,_=>i
 | f+1,i,j=>bif decide (i<j) then(bif decide (eP (l.getD ((i+j) / 2) ent0) e<0) then bsGo l e f ((i+j) / 2+1) j else bsGo l e f i ((i+j) / 2)) else i
def spot(l:List Ent)(e:Ent):Nat:=bsGo l e (l.length+1) 0 l.length
def putIt(l:List Bs)(i:Nat)(x:Bs):List Bs:=l.take i++[x]++l.drop i
def fitsP(p:Pg):O Pg:=do gd (eW p);some p
def notAt(l:List Ent)(e:Ent)(i:Nat):Bool:=match l[i]? with
 | some x=>!(decide (eP x e=0))
 | none=>true
def nodeIn(p:Pg)(e:Ent):O Pg:=do
 let l <- opened p
 gd (entOk e&&notAt l e (spot l e))
 fitsP { p with items:=putIt p.items (spot l e) (sA e) }
def blay(p:Pg)(item:Bs):O Pg:=do
 let e <- fh item;let l <- opened p
 gd (!(decide (e∈l)))
 nodeIn p e
def slotOf(p:Pg):O Nat:=do gd (p.items.all λs=>!(decide (s=[])));some p.items.length
def heapPut(p:Pg)(s:Bs):O Pg:=fitsP { p with items:=p.items++[s] }
def heapWith(p:Pg)(i:Nat)(s:Bs):O Pg:=fitsP { p with items:=p.items.set i s }
def roomOf(p:Pg):O Int:=do
 let n <- slotOf p
 gd (decide (n<255)&&decide (bt p<=510))
 some (510 - bt p:Nat)
def itemAt(p:Pg)(i:Int):O Bs:=do gd (decide (0<=i));p.items[i.toNat]?
def it0(p:Pg):Bs:=p.items.getD 0 []
def it1(p:Pg):Bs:=p.items.getD 1 []
def Fp(m:Int)(p:Pg):Bool:=decide (p.kind=1/\0<=p.lsn/\p.level=0/\p.right=0/\p.items.length=2/\((it1 p).length:Int)=m / 4/\m % 4=0)&&decide (p.high=[])&&decide (rdNum m (it0 p) 0=(1,[],0))
def plN(x:Int):Nat:=(x - 1).toNat
def oQ(x:Int):Nat:=2*(plN x % 4)
def IL(b:Bs)(x:Int):Int:=vH .u8 (((b.getD (plN x / 4) 0).toNat:Int).fdiv (2 ^ (min (oQ x) 8))) 3
def pbyte(c:UInt8)(s:Int)(far:Nat):UInt8:=UInt8.ofNat (orI .u8 (jU .u8 c.toNat (IntKind.u8.wrap (3*2 ^ far))) (IntKind.u8.wrap (s*2 ^ far))).toNat
def clogGet(m:Int)(p:Pg)(x:Int):O Int:=do gd (Fp m p&&idOk m x);some (IL (it1 p) x)
def clogSet(m:Int)(p:Pg)(x:Int)(s:Int):O Pg:=do
 gd (Fp m p&&idOk m x)
 some ⟨p.lsn,1,0,0,[],[bG 1,(it1 p).set (plN x / 4) (pbyte ((it1 p).getD (plN x / 4) 0) s (oQ x))]⟩
def clogNew(m:Int):Pg:=⟨0,1,0,0,[],[bG 1,aH (m / 4).toNat]⟩
structure Vw where
 m : Int
 next : Int
 act : List Int
 own : Int
 run : List Int
 st : Pg
def status(v:Vw)(x:Int):O Int:=bif decide (x∈v.run) then some 1 else clogGet v.m v.st x
def sees(v:Vw)(x:Int):O Bool:=bif decide (x=0) then some false else bif decide (x=v.own) then some true else bif decide (x∈v.act)||!(xBefore v.m x v.next) then some false else(status v x).map λs=>decide (s=2)
def visible(v:Vw)(t:Tu):O Bool:=do
 let a <- sees v t.xmin
 bif a then(sees v t.xmax).map (!·) else some false
def unseen(v:Vw)(x:Int):O Bool:=bif decide (x=0) then some false else do
 let a <- sees v x
 bif a then some false else(status v x).map λs=>decide (s=2)
def newer(v:Vw)(t:Tu):O Bool:=do
 let a <- unseen v t.xmin
 bif a then some true else unseen v t.xmax
def rec0:Rc:=⟨0,0,0,0,0,0,0,0,0,0,[],[],[],[],[],[]⟩
def turn(p:Pg)(i:Int)(was now:Int):O Pg:=do
 let s <- itemAt p i;let t <- fH s
 gd (decide (t.xmax=was)&&tu { t with xmax:=now })
 heapWith p i.toNat (dM { t with xmax:=now })
def deed(m:Int)(p:Pg)(r:Rc):O Pg:=match r.kind with
 | 1=>do
  let t <- fH r.data
  gd (decide (r.slot=p.items.length))
  heapPut p r.data
 | 2=>turn p r.slot r.old r.new
 | 3=>do
  let e <- fh r.data
  nodeIn p e
 | 6=>bif decide (r.old≠0)||decide (r.new≠0) then turn p r.slot r.old r.new else do
  let s <- itemAt p r.slot;let t <- fH s
  heapWith p r.slot.toNat (deadB t.key)
 | 7=>clogSet m p r.xid 2
 | 8=>clogSet m p r.xid 3
 | _=>none
def dkB(k:Int):Bool:=decide (k=1\/k=2\/k=3\/k=6\/k=7\/k=8)
def touch(r:Rc):O Int:=match r.imgs with
 | []=>do gd (dkB r.kind);some r.page
 | [x]=>do gd (decide (r.kind=13)||(dkB r.kind&&decide (r.page=x.1)));some x.1
 | _=>none
def smP(p:Pg):Bool:=decide (p.items.length<=255)&&p.items.all λs=>decide (s.length<=1000)
def inL(z:Int):Bool:=decide (0<=z/\z<1000000000)
def doRec(m:Int)(p:Pg)(n:Int)(r:Rc):O Pg:=match r.imgs with
 | [x]=>do gd (decide (x.1=n)&&smP x.2&&inL r.lsn);some { x.2 with lsn:=r.lsn }
 | []=>do
  gd (decide (p.lsn<r.lsn)&&decide (n=r.page)&&decide (r.data.length<=1000)&&inL r.lsn)
  let q <- deed m p r
  some { q with lsn:=r.lsn }
 | _=>none
def undoes(r:Rc):Bool:=decide (r.kind=1)||decide (r.kind=2)
def back(r:Rc):O Rc:=match r.kind with
 | 1=>some { rec0 with kind:=6,xid:=r.xid,page:=r.page,slot:=r.slot,next:=r.prev }
 | 2=>some { rec0 with kind:=6,xid:=r.xid,page:=r.page,slot:=r.slot,next:=r.prev,old:=r.new,new:=r.old }
 | _=>none
structure Ak where
 call : Int
 key : Bs
 to_ : Bs
 val : Bs
 n : Int
structure Rp where
 err : Int
 found : Bool
 val : Bs
 rows : List (Bs × Bs)
def ak0:Ak:=⟨0,[],[],[],0⟩
def rp0:Rp:=⟨0,false,[],[]⟩
structure Pn where
 ask : Ak
 own : Int
 wk : Int
 wkey : Bs
 wsz : Int
 wpg : Int
 stg : Nat
 rep : Rp
 rows : List (Bs × Bs)
 seen : Int
 left : List Ent
 hit : Bool
 one : Ent
 ent : Ent
 item : Bs
def writes(a:Ak):Bool:=decide (a.call=3)||decide (a.call=4)
def rightA(a:Ak)(own:Int):Bool:=bif decide (a.call=3) then keyOk a.key&&decide (a.val.length<=64)&&decide (0<own) else bif decide (a.call=4) then keyOk a.key&&decide (0<own) else decide (a.call=5)&&decide (a.key.length<=24/\a.to_.length<=24/\0<a.n/\a.n<=16)
def pn0(a:Ak)(own:Int):Pn:=⟨a,own,0,[],0,0,0,rp0,[],0,[],false,ent0,ent0,[]⟩
def see(p:Pn)(n:Int)(s:Nat):Pn:={ p with wk:=3,wkey:=[],wsz:=0,wpg:=n,stg:=s }
def fin(p:Pn)(r:Rp):Pn:={ p with wk:=4,wkey:=[],wsz:=0,wpg:=0,stg:=0,rep:=r }
def look(p:Pn):Pn:=see { p with seen:=0 } 1 216
def mkP(a:Ak)(own:Int):O Pn:=do
 gd (rightA a own)
 some (bif writes a then { pn0 a own with wk:=1,wkey:=a.key } else look (pn0 a own))
def version(p:Pn):Tu:=⟨p.own,0,p.ask.key,p.ask.val⟩
def write(p:Pn):O Pn:=bif decide (p.ask.call=4) then some (fin p { rp0 with found:=p.hit }) else do
 gd (tu (version p))
 some { p with stg:=0,wk:=2,wkey:=[],wsz:=((dM (version p)).length:Int),wpg:=0 }
def next(p:Pn):O Pn:=match p.left with
 | e::_=>some (see p e.page 408)
 | []=>bif !(writes p.ask) then some (fin p { rp0 with rows:=p.rows }) else bif p.hit then some (see p p.one.page 409) else write p
def descend(p:Pn)(b:Pg):O Pn:=do
 gd (decide (p.ask.key.length<=24)&&decide (0<=p.seen/\p.seen<4000))
 let l <- opened b;let h <- hits b p.ask.key (bif decide (p.ask.call=5) then p.ask.to_ else p.ask.key++[0])
 next { p with seen:=p.seen+1,left:=h }
def inspect(v:Vw)(p:Pn)(b:Pg):O Pn:=match p.left with
 | []=>none
 | e::l=>do
  gd (decide (b.kind=2)&&decide (p.rows.length<=1000))
  let s <- itemAt b e.slot;let t <- tuAt s;let p:={ p with left:=l }
  match t with
  | none=>next p
  | some t=>do
   gd (decide (t.key=e.key))
   let sn <- visible v t;let nw <- bif writes p.ask then newer v t else some false
   bif nw then some (fin p { rp0 with err:=180 }) else
   bif !sn then next p else
   bif writes p.ask then next { p with hit:=true,one:=e } else
   (do
    gd (decide (p.ask.call=5)&&p.rep.rows.isEmpty)
    let q:={ p with rows:=p.rows++[(t.key,t.val)] }
    bif decide ((q.rows.length:Int)=p.ask.n) then some (fin q { rp0 with rows:=q.rows }) else next q)
def finish(p:Pn)(b:Pg):O (Pn×Rc):=do
 gd (decide (b.kind=2))
 let s <- itemAt b p.one.slot;let t <- fH s
 gd (decide (1<=p.own)&&!(decide (p.own=t.xmax))&&tu { t with xmax:=p.own })
 let q <- heapWith b p.one.slot.toNat (dM { t with xmax:=p.own });let r:={ rec0 with kind:=2,xid:=p.own,page:=p.wpg,slot:=p.one.slot,old:=t.xmax,new:=p.own };let p <- write p
 some (p,r)
def layP(p:Pn)(b:Pg):O (Pn×Rc):=do
 gd (decide (b.kind=2)&&tu (version p))
 let n <- slotOf b;let q <- heapPut b (dM (version p));let e:Ent:=⟨p.ask.key,p.wpg,n⟩
 gd (entOk e)
 some (see { p with ent:=e,item:=sA e,seen:=0 } 1 362,{ rec0 with kind:=1,xid:=p.own,page:=p.wpg,slot:=n,data:=dM (version p) })
def enter(p:Pn)(b:Pg):O (Pn×Rc):=do
 gd (entOk p.ent&&decide (0<=p.seen/\p.seen<4000)&&decide (p.item.length<=1000))
 let q <- blay b p.item
 some (fin { p with seen:=p.seen+1 } { rp0 with found:=p.hit },{ rec0 with kind:=3,xid:=p.own,page:=p.wpg,data:=p.item })
def pageP(v:Vw)(p:Pn)(b:Pg):O (Pn×O Rc):=bif !(smP b&&(decide (p.stg=362)||p.item.isEmpty)) then none else match p.stg with
 | 216=>(descend p b).map (·,none)
 | 408=>(inspect v p b).map (·,none)
 | 409=>(finish p b).map λx=>(x.1,some x.2)
 | 302=>(layP p b).map λx=>(x.1,some x.2)
 | 362=>(enter p b).map λx=>(x.1,some x.2)
 | _=>none
structure Tx where
 next : Int
 act : List Int
 xid : Int
 first : Int
 last : Int
 undoes : Int
def insI(x:Int):List Int->List Int
 | []=>[x]
 | y::l=>bif decide (x<=y) then x::y::l else y::insI x l
def running(l:List (Int×Tx)):List Int:=(l.filterMap λp=>bif decide (p.2.xid=0) then none else some p.2.xid).foldr insI []
def logged(l:List (Int×Tx))(who at_:Int)(u:Bool):O (List (Int×Tx)):=do
 let t <- getD l who
 gd (!(decide (t.xid=0))&&decide (t.last<at_)&&decide (0<=t.undoes/\t.undoes<1000000))
 some (cO l who { t with last:=at_,first:=bif decide (t.first=0) then at_ else t.first,undoes:=bif u then t.undoes+1 else t.undoes })
inductive Wk
 | none | begin | follow | commit | settle | roll
structure Seat where
 ask : Ak
 wk : Wk
 told : Bool
 rep : Rp
 plan : O Pn
 why : Int
 next : Int
 end_ : Int
def seat0:Seat:=⟨ak0,.none,false,rp0,none,0,0,0⟩
structure E where
 s : PS
 m : Int
 pages : Int
 st : Pg
 holds : List (Bs × Int)
 waits : List (Int × Bs)
 txns : List (Int × Tx)
 nxt : Int
 room : O Int
 fresh : Int
 kept : Bool
 seats : List Seat
 pick : Int
 phase : Nat
 recs : List Rc
 met : List Int
 saves : List Int
 at_ : Int
def lg(e:E)(l:Lg):E:={ e with s:={ e.s with l:=l } }
def reserve(e:E)(n:Int):O E:=do gd (decide ((e.s.l.reserve n).2=0));some (lg e (e.s.l.reserve n).1)
def release(e:E)(n:Int):O E:=do gd (decide ((e.s.l.release n).2=0));some (lg e (e.s.l.release n).1)
def fetch(e:E)(n:Int):O (E×Pg):=do
 let r:=e.s.fetch n e.pick
 gd (decide (r.2.2=0)&&smP r.2.1)
 some ({ e with s:=r.1 },r.2.1)
def lay(e:E)(n:Int)(p:Pg):O E:=do
 let r:=e.s.set n p e.pick
 gd (decide (r.2=0))
 let rm <- bif decide (p.kind=2) then(do gd (decide (n=2));(roomOf p).map some) else some e.room
 some { e with s:=r.1,st:=bif decide (n=0) then p else e.st,room:=rm }
def behind(e:E)(r:Rc)(n:Int):O (E×Rc×Pg):=match r.imgs with
 | [x]=>(doRec e.m pg0 n { r with imgs:=[(x.1,{ x.2 with lsn:=r.lsn })] }).map λq=>(e,{ r with imgs:=[(x.1,{ x.2 with lsn:=r.lsn })] },q)
 | []=>do
  let (e,p) <- fetch e n;let q <- doRec e.m p n r
  some (e,bif (!(getD e.s.p.owed n).isNone) then r else { r with imgs:=[(n,q)] },q)
 | _=>none
def inZ(z:Int):Bool:=decide (-1000000000000<=z/\z<=1000000000000)
def rcB(r:Rc):Bool:=(rNums r).all inZ&&decide (0<=r.kind/\r.kind<=255/\r.data.length<=1000/\r.imgs.length<=1)&&decide (r.slots=[]/\r.more=[]/\r.pages=[]/\r.txns=[])&&r.imgs.all λx=>decide (x.2.lsn<=1000000000000)
def wr(e:E)(who:Int)(r:Rc)(free:Int):O E:=do
 let t <- getD e.txns who;let op:=decide (0<r.xid)&&decide (t.xid=r.xid);let r:={ r with prev:=bif op then t.last else r.prev,lsn:=(e.s.l.tail:Int) };let n <- touch r;let (e,r,q) <- behind e r n
 gd (decide ((e.s.l.tail:Int)=r.lsn)&&rcB r)
 let e <- bif undoes r then reserve e 700 else some e
 let e <- release e free;let a:=e.s.l.append r
 gd (decide (a.2.2=0))
 let e:=lg e a.1;let tx <- bif op then logged e.txns who a.2.1 (undoes r) else some e.txns
 lay { e with txns:=tx } n q
def xids(l:List (Int×Tx)):List Int:=l.filterMap λp=>bif decide (p.2.xid=0) then none else some p.2.xid
def fewT(l:List (Int×Tx)):Bool:=decide (l.length<=12)&&decide ((xids l).Nodup)
def view(e:E)(who:Int):O Vw:=do
 gd (fewT e.txns&&smP e.st)
 let t <- getD e.txns who
 some ⟨e.m,t.next,t.act,t.xid,running e.txns,e.st⟩
def seatAt(e:E)(i:Nat):Seat:=e.seats.getD i seat0
def setSeat(e:E)(i:Nat)(s:Seat):E:={ e with seats:=e.seats.set i s }
def say(e:E)(i:Nat)(r:Rp):E:=setSeat e i { seat0 with told:=true,rep:=r }
def ask(e:E)(i:Nat)(a:Ak):O E:=match (seatAt e i).wk with
 | .none=>some (setSeat e i { seat0 with ask:=a,wk:=.begin })
 | _=>none
def letGo(e:E)(who:Int):E:={ e with holds:=e.holds.filter λx=>!(decide (x.2=who)),waits:=e.waits.filter λx=>!(decide (x.1=who))&&!(decide (getD e.holds x.2=some who)) }
def close(e:E)(i:Nat)(n:Int):O E:=do
 let t <- getD e.txns (i:Int)
 gd (decide (e.waits.length<=100)&&decide (0<=n/\n<=1000000))
 let e <- release { e with txns:=cR e.txns (i:Int) } (700*n)
 some (letGo e i)
def modPlan(e:E)(i:Nat)(p:Pn):E:=setSeat e i { seatAt e i with plan:=some p }
def show_(e:E)(i:Nat)(p:Pn):O E:=do
 let (e,b) <- fetch e p.wpg;let v <- view e i;let (p,r) <- pageP v p b
 match r with
 | none=>some (modPlan e i p)
 | some r=>do
  let e <- wr (modPlan e i p) i r 0
  gd (inZ e.fresh)
  some e
def roomFor(e:E)(i:Nat)(n:Int):O (E×Int):=match e.room with
 | some x=>do gd (decide (n<=x));some (e,2)
 | none=>do
  gd (decide (e.fresh=2)&&decide (2<e.pages))
  let t <- getD e.txns (i:Int);let e <- wr e i { rec0 with kind:=13,xid:=t.xid,imgs:=[(2,{ pg0 with kind:=2 })] } 0
  gd (inZ e.fresh)
  some ({ e with fresh:=e.fresh+1 },2)
def ringsM(H:List (Bs×Int))(W:List (Int×Bs))(who:Int):Nat->Int->O Bool
 | 0,_=>none
 | f+1,a=>bif decide (a=who) then some true else match getD W a with
  | none=>some false
  | some k=>match getD H k with
   | none=>none
   | some q=>ringsM H W who f q
def tryK(e:E)(who:Int)(k:Bs):O (E×Nat):=
 let W:=cR e.waits who;let h:=(getD e.holds k).getD who
 bif decide (h=who) then some ({ e with holds:=cO e.holds k who,waits:=W },0) else do
  let r <- ringsM e.holds W who 9 h
  bif r then some ({ e with waits:=W },2) else some ({ e with waits:=cO W who k },1)
def ended(e:E)(i:Nat):O E:=do
 let p <- (seatAt e i).plan
 bif decide (p.wk=4) then
  (bif decide (p.rep.err=0) then(do gd (decide (p.rep.rows.length<=1000));some (say e i p.rep)) else do
   gd (!(decide ((seatAt e i).ask.call=2))&&!(decide ((seatAt e i).ask.call=5))&&decide (p.rep.rows.length<=1000))
   let t <- getD e.txns (i:Int)
   some (setSeat e i { seatAt e i with wk:=.roll,why:=p.rep.err,next:=t.last }))
 else some e
def follow(e:E)(i:Nat):O E:=do
 gd (seatAt e i).rep.rows.isEmpty
 let p <- (seatAt e i).plan;let e <- (match p.wk with
  | 1=>do
   let (e,r) <- tryK e i p.wkey
   some (modPlan e i (match r with
    | 0=>look p
    | 1=>p
    | _=>fin p { rp0 with err:=181 }))
  | 2=>do
   let (e,n) <- roomFor e i p.wsz
   show_ (modPlan e i (see p n 302)) i (see p n 302)
  | 3=>show_ e i p
  | _=>none:O E)
 ended e i
def commit(e:E)(i:Nat):O E:=do
 let t <- getD e.txns (i:Int)
 wr (setSeat e i { seatAt e i with wk:=.settle,end_:=(e.s.l.tail:Int) }) i { rec0 with kind:=7,xid:=t.xid } 700
def flush(e:E)(to_:Int):O E:=bif decide (to_<(e.s.l.last:Int)) then some e else do
 let r:=e.s.l.flush to_ e.s.d
 gd (decide (r.2.2=0))
 some { e with s:=⟨e.s.p.synced,r.1,r.2.1⟩ }
def settle(e:E)(i:Nat):O E:=do
 let e <- flush e (seatAt e i).end_;let t <- getD e.txns (i:Int);let e <- close e i t.undoes
 some (say e i rp0)
def chain(e:E):Nat->Int->O (Int×O Rc)
 | 0,_=>none
 | f+1,at_=>bif decide (at_<=0) then some (at_,none) else do
  let r <- getD e.s.l.recs at_
  match back r with
  | some u=>some (at_,some u)
  | none=>do
   gd (decide (r.prev<at_))
   chain e f r.prev
def roll(e:E)(i:Nat):O E:=do
 let t <- getD e.txns (i:Int);let (a,c) <- chain e 100 (seatAt e i).next
 match c with
 | some u=>wr (setSeat e i { seatAt e i with next:=u.next }) i { u with new:=0 } 700
 | none=>do
  let e:=setSeat e i { seatAt e i with next:=a };let e <- bif decide (t.last=0) then release e 700 else wr e i { rec0 with kind:=8,xid:=t.xid } 700
  let e <- close e i 0
  some (say e i { rp0 with err:=(seatAt e i).why })
def begin(e:E)(i:Nat):O E:=
 let a:=(seatAt e i).ask
 match a.call with
 | 1=>do
  gd ((getD e.txns (i:Int)).isNone&&fewT e.txns)
  some (say { e with txns:=cO e.txns (i:Int) ⟨e.nxt,running e.txns,0,0,0,0⟩ } i rp0)
 | 6=>do
  let t <- getD e.txns (i:Int)
  bif decide (t.last=0) then(do
   gd (decide (t.xid=0))
   let e <- close e i 0
   some (say e i rp0))
  else commit (setSeat e i { seatAt e i with next:=t.last,wk:=.commit }) i
 | 7=>do
  let t <- getD e.txns (i:Int)
  gd (!(decide (t.last=0)))
  roll (setSeat e i { seatAt e i with next:=t.last,wk:=.roll }) i
 | _=>do
  let t <- getD e.txns (i:Int);let (e,x) <- (bif writes a&&decide (t.xid=0) then(do
   gd (rightA a 1&&decide (0<e.m / 2 - 2 - xGap e.m 1 e.nxt)&&!(decide (e.nxt∈running e.txns))&&fewT e.txns)
   let e <- reserve e 700
   some ({ e with nxt:=xAdd e.m e.nxt 1,txns:=cO e.txns (i:Int) { t with xid:=e.nxt } },e.nxt)) else some (e,t.xid):O (E×Int))
  let p <- mkP a x
  follow (setSeat e i { seatAt e i with plan:=some p,wk:=.follow }) i
def stepM(e:E)(i:Nat):O E:=match (seatAt e i).wk with
 | .begin=>begin e i
 | .follow=>follow e i
 | .commit=>commit e i
 | .settle=>settle e i
 | .roll=>roll e i
 | .none=>none
def goes(e:E)(i:Nat):Bool:=(match (seatAt e i).wk with
 | .none=>false
 | _=>true)&&(getD e.waits (i:Int)).isNone
def runnable(e:E):List Nat:=(List.range 8).filter (goes e)
def redo(e:E):O E:=match e.recs with
 | []=>(fetch e 0).map λx=>{ x.1 with st:=x.2,phase:=1 }
 | r::l=>do
  let n <- touch r;let e:={ e with recs:=l,met:=bif r.imgs.isEmpty||decide (n∈e.met) then e.met else n::e.met }
  gd (decide (n∈e.met))
  let (e,p) <- (bif r.imgs.isEmpty then fetch e n else some (e,pg0):O (E×Pg));let q <- doRec e.m p n r
  lay e n q
def phaseM(e:E):O E:=match e.phase with
 | 0=>redo e
 | 1=>some { e with phase:=2 }
 | 2=>do
  let l:=(e.s.p.owed.map (·.1)).foldr insI []
  gd (decide (0<=e.at_)&&decide (l.Pairwise (· < ·))&&l.all λn=>decide (0<=n/\n<8192))
  some { e with phase:=3,saves:=l }
 | 3=>(match e.saves with
  | n::l=>do
   let r:=e.s.write n
   gd (decide (r.2=0))
   some { e with s:=r.1,saves:=l }
  | []=>do
   let r:=e.s.d.sync
   gd (decide (r.2=0))
   some { e with s:=⟨e.s.p.synced,e.s.l,r.1⟩,phase:=4,at_:=2 })
 | 4=>bif decide (e.fresh<=e.at_) then(do
   let e <- reserve e 1500
   some { e with kept:=true,phase:=5 })
  else do
   gd (decide (e.at_=2))
   let (e,p) <- fetch { e with at_:=3 } 2
   gd (decide (p.kind=2))
   let x <- roomOf p
   some { e with room:=some x }
 | _=>none
def readyGo:Nat->Int->E->O E
 | 0,_,_=>none
 | f+1,k,e=>bif decide (e.phase=5) then some e else do
  let e <- phaseM { e with pick:=k }
  readyGo f (k+1) e
structure Ctl where
 frames : Int
 m : Int
 secs : Int
 pages : Int
def xL(r:Rc):Bool:=(decide (r.kind=1)||decide (r.kind=2)||decide (r.kind=6)||decide (r.kind=7)||decide (r.kind=8))&&decide (0<r.xid)
def findX(m:Int):List Rc->Int->Int
 | [],x=>x
 | r::l,x=>findX m l (bif xL r&&!(xBefore m r.xid x) then xAdd m r.xid 1 else x)
def findP:List Rc->Int->Int
 | [],n=>n
 | r::l,n=>findP l (r.imgs.foldl (λn x=>bif decide (n<x.1+1) then x.1+1 else n) n)
def kN:List Rc->List (Int×Int)->List (Int×Int)
 | [],l=>l
 | r::rs,l=>kN rs (bif !(xL r) then l else bif decide (r.kind=7)||decide (r.kind=8) then cR l r.xid else cO l r.xid (bif decide (r.kind=6) then r.next else r.lsn))
def iQ(c:Ctl):Bs:=beN 4 1++(beN 4 c.frames.toNat++(beN 4 c.m.toNat++(beN 4 c.secs.toNat++(beN 4 c.pages.toNat++(beN 6 1++(beN 6 0++(aH 28++beN 4 1)))))))
def sectors(c:Ctl):Int:=2+c.secs+8*c.pages
def okD(r:Dk×Int):O Dk:=do gd (decide (r.2=0));some r.1
def formatM(c:Ctl):O Dk:=do
 let d <- okD ((Dk.mk0 (sectors c).toNat).write 0 (aH 128));let d <- okD (d.write (2+c.secs) ((pEnc (clogNew c.m)).1++(pEnc { pg0 with kind:=3 }).1));let d <- okD (zr d 2 c.secs);let d <- okD d.sync;let d <- okD (d.write 1 (iQ c))
 okD d.sync
def openM(d:Dk)(c:Ctl):O E:=do
 gd (decide (sectors c<=(d.cur.length:Nat))&&!d.gone)
 gd (decide (d.read 0 2=(aH 64++iQ c,0)))
 let r:=my d 2 c.secs 1
 gd (decide (r.2=0))
 let L:=oc d 2 c.secs.toNat 1;let rs:=(sR d 2 c.secs.toNat 1).1
 gd (kN rs []).isEmpty
 gd (rs.all λr=>decide (r.kind≠12)&&decide (r.kind≠11)&&decide (1<=r.lsn)&&r.imgs.all λx=>decide (0<=x.1/\x.1<=65535))
 gd (decide ((L.reserve 0).2=0))
 let L:=(L.reserve 0).1;let x:=findX c.m rs 1
 gd (decide (xGap c.m 1 x<=c.m / 2 - 2)&&decide (1<=x/\x<=c.m))
 let p:=um (2+c.secs) c.pages c.frames
 some ⟨⟨p,L,r.1⟩,c.m,c.pages,pg0,[],[],[],x,none,findP rs 2,false,List.replicate 8 seat0,0,0,rs,[],[],0⟩
def opensM(d:Dk)(c:Ctl):O E:=do
 let e <- openM d c
 readyGo 60 0 e
def replyM(e:E)(i:Nat):O (E×Rp):=bif (seatAt e i).told then some (setSeat e i { seatAt e i with told:=false,rep:=rp0 },(seatAt e i).rep) else none
def runN(e:E)(n k:Int):O E:=match (runnable e)[gb (runnable e).length n]? with
 | some i=>stepM { e with pick:=k } i
 | none=>none
def runM(e:E)(k:Int):O E:=match runnable e with
 | i::_=>stepM { e with pick:=k } i
 | []=>none
def aloneGo(i:Nat):Nat->Int->E->O (E×Rp)
 | 0,_,_=>none
 | f+1,k,e=>match replyM e i with
  | some r=>some r
  | none=>do
   let e <- runM e k
   aloneGo i f (k+1) e
def alone(e:E)(i:Nat)(a:Ak):O (E×Rp):=do
 let e <- ask e i a
 aloneGo i 40 0 e
def okR(r:E×Rp):O E:=do gd (decide (r.2.err=0));some r.1
def beginM(c:Ctl):O E:=do
 let d <- formatM c
 opensM d c
def aw(n:Int):Ak:={ ak0 with call:=n }
def putA(k v:Bs):Ak:={ ak0 with call:=3,key:=k,val:=v }
def awake1(e:E):O E:=do
 let e <- (alone e 0 (aw 1)).bind okR;let e <- (alone e 0 (putA [97] [49])).bind okR;let e <- (alone e 0 (putA [98] [50])).bind okR
 (alone e 0 (aw 6)).bind okR
def ctlA:Ctl:=⟨4,16,200,10⟩
def awake2:O E:=do
 let e <- beginM ctlA;let e <- awake1 e;let e <- awake1 e;let e <- (alone e 1 (aw 1)).bind okR
 (alone e 1 { ak0 with call:=4,key:=[97] }).bind okR
def awake3:O (E×Rp):=do
 let e <- awake2;let e <- opensM (e.s.d.crash []) ctlA;let e <- (alone e 2 (aw 1)).bind okR
 alone e 2 { ak0 with call:=5,n:=16 }
def awakeM:Bool:=match awake3 with
 | some (e,r)=>decide (r.err=0)&&decide (r.rows=[([97],[49]),([98],[50])])&&(match (alone e 2 (aw 6)).bind okR with
  | some _=>true
  | none=>false)
 | none=>false
def ctlP:Ctl:=⟨5,32,3000,40⟩
def kb(s n:Nat):Bs:=[UInt8.ofNat (97+s % n)]
def rings1(n:Nat):Nat->Nat->E->O E
 | 0,_,e=>some e
 | f+1,s,e=>do
  let e <- (alone e s (aw 1)).bind okR;let e <- (alone e s (putA (kb s n) [49])).bind okR
  rings1 n f (s+1) e
def rings2(n:Nat):Nat->Nat->E->O E
 | 0,_,e=>some e
 | f+1,s,e=>do
  let e <- ask e s (putA (kb (s+1) n) [50])
  rings2 n f (s+1) e
structure Rg where
 e : E
 st : List Int
 ref : Int
 end_ : Int
def repGo(n:Nat):Nat->Nat->Rg->O Rg
 | 0,_,g=>some g
 | f+1,s,g=>match replyM g.e s with
  | none=>repGo n f (s+1) g
  | some (e,r)=>bif decide (g.st.getD s 9=0)&&decide (r.err=0) then(do
    let e <- ask e s (aw 7)
    repGo n f (s+1) ⟨e,g.st.set s 1,g.ref,g.end_⟩)
   else bif decide (g.st.getD s 9=0)&&decide (r.err=181) then repGo n f (s+1) ⟨e,g.st.set s 2,g.ref+1,g.end_+1⟩
   else bif decide (g.st.getD s 9=1)&&decide (r.err=0) then repGo n f (s+1) ⟨e,g.st.set s 2,g.ref,g.end_+1⟩
   else none
def roundM(n:Nat)(g:Rg)(p k:Int):O Rg:=do
 let e <- runN g.e p k
 repGo n n 0 { g with e:=e }
end M
end Go.Proofs.YtmdmffeoehfjgaaGreatDoor
namespace Go.Al
structure PP where
 out : Prop
abbrev KP:=Value->World->PP
@[congr] theorem Fa{p:PP}:p.out=p.out:=rfl
@[irreducible] def puP(r:Option Value)(k:Value->PP):PP:=⟨Pu r λv=>(k v).out⟩
@[irreducible] def ldP(w:World)(x:Value)(k:KP):PP:=⟨Ld w x λv w=>(k v w).out⟩
@[irreducible] def BD(n:Nat)(w:World)(x:Value)(k:KP):PP:=⟨LdN n w x λv w=>(k v w).out⟩
@[irreducible] def stP(n:Nat)(w:World)(x u:Value)(k:KP):PP:=⟨St n w x u λv w=>(k v w).out⟩
@[irreducible] def um(cs:Array Value)(t:TypeId)(w:World)(k:KP):PP:=⟨New cs t w λv w=>(k v w).out⟩
@[irreducible] def rsP{P:Program}(s:Sem Value)(w:World)(k:KP):PP:=⟨RunS P s w λv w=>(k v w).out⟩
@[irreducible] def ruP{P:Program}(s:Sem Unit)(w:World)(k:KP):PP:=⟨RunU P s w λv w=>(k v w).out⟩
@[irreducible] def clP{P:Program}(g:FuncId)(l:List Value)(w:World)(k:KP):PP:=⟨Cl P g l w λv w=>(k v w).out⟩
@[irreducible] def cvP{P:Program}(g:Value)(l:List Value)(w:World)(k:KP):PP:=⟨ClV P g l w λv w=>(k v w).out⟩
@[irreducible] def gdP(c:Bool)(X:KP->PP)(w:World)(k:KP):PP:=⟨Gd c (λk'=>(X λv w=>⟨k' v w⟩).out) w λv w=>(k v w).out⟩
@[irreducible] def ggP(c:Bool)(X:KP->PP)(w:World)(k:Fr->KP):PP:=⟨GdG c (λk'=>(X λv w=>⟨k' v w⟩).out) w λg v w=>(k g v w).out⟩
@[irreducible] def ifP(v:Value)(a b:PP):PP:=⟨IfB v a.out b.out⟩
@[irreducible] def noP:PP:=⟨False⟩
@[irreducible] def yesP:PP:=⟨True⟩
@[irreducible] def ot(a b:PP):PP:=⟨a.out/\b.out⟩
@[irreducible] def Bm(C:World->Prop)(w:World)(p:PP):PP:=⟨C w/\p.out⟩
@[irreducible] def Gg(w w':World)(p:PP):PP:=⟨w=w'/\p.out⟩
@[irreducible] def Gc(u v:Value)(w w':World):PP:=⟨u=v/\w=w'⟩
@[irreducible] def DP(q:Value->PP):PP:=⟨∃v,(q v).out⟩
@[irreducible] def Gh(q:(World->Prop)->PP):PP:=⟨∃C,(q C).out⟩
@[irreducible] def zC(C:World->Prop)(q:World->PP):PP:=⟨∀w,C w->(q w).out⟩
@[irreducible] def jnP(B:List Value->World->PP)(A:(List Value->World->PP)->PP):PP:=⟨Jn (λvs w=>(B vs w).out) λkk=>(A λvs w=>⟨kk vs w⟩).out⟩
@[irreducible] def FX(q:Fr->PP):PP:=⟨∀g,(q g).out⟩
@[irreducible] def FY(q:Fr->World->PP):PP:=⟨∀g w,(q g w).out⟩
@[irreducible] def FZ(q:Value->PP):PP:=⟨∀v,(q v).out⟩
@[irreducible] def Gf(l m:List Value)(p:PP):PP:=⟨l=m/\p.out⟩
@[irreducible] def Gi(q:LP->LN->PP):PP:=⟨∃I μ,(q I μ).out⟩
@[irreducible] def iP(I:LP)(l:List Value)(w:World):PP:=⟨I l w⟩
@[irreducible] def Gj(I:LP)(l:List Value)(w:World)(p:PP):PP:=⟨I l w->p.out⟩
@[irreducible] def Gb(I:LP)(μ:LN)(l:List Value)(w:World)(m:List Value)(w':World):PP:=⟨I l w/\μ l w<μ m w'⟩
@[irreducible] def DR(r:List Value)(w:World)(k:KV):PP:=⟨ch (some r) w k⟩
@[irreducible] def DN(op:BinOp)(t:TypeId)(x y:Operand)(a b:Value):Sem Value:=do eqGuard op t x y a b;binOp op t a b
def GH(P:Program)(f:Fr)(o:Oper)(w:World)(k:KP):PP:=match o.op with
 | .load t a=>(match lI P t with
  | some false=>ldP w (ev f a) k
  | some true=>(match bN P t with
   | some n=>BD n w (ev f a) k
   | none=>noP)
  | none=>noP)
 | .store t a x=>(match bN P t with
  | some n=>stP n w (ev f a) (ev f x) k
  | none=>noP)
 | .alloc t=>(match Bg P t with
  | some cs=>um cs t w k
  | none=>noP)
 | .box t x=>um (ev f x).cells t w k
 | .build t parts=>rsP (P:=P) (Instr.build t (parts.toList.map λp=>(p.1,ev f p.2)).toArray) w k
 | .buildSlice t len parts=>rsP (P:=P) (Instr.buildSlice t len (parts.toList.map λp=>(p.1,ev f p.2)).toArray) w k
 | .lookup t m i ok=>rsP (P:=P) (Instr.lookup t (ev f m) (ev f i) ok) w k
 | .mapUpdate t m i x | .insert t m i x=>ruP (P:=P) (Instr.mapUpdate t (ev f m) (ev f i) (ev f x)) w k
 | .range t x=>rsP (P:=P) (Instr.range t (ev f x)) w k
 | .next it s=>rsP (P:=P) (Instr.next (ev f it) s o.type) w k
 | .entry it=>rsP (P:=P) (Instr.entry (ev f it)) w k
 | .makeMap t r=>rsP (P:=P) (Instr.makeMap t (qo f r)) w k
 | .makeSlice t l c=>rsP (P:=P) (Instr.makeSlice t (ev f l) (ev f c)) w k
 | .convert src dst x=>rsP (P:=P) (convert src dst (ev f x)) w k
 | .binOp op t x y _=>rsP (P:=P) (DN op t x y (ev f x) (ev f y)) w k
 | .slice t x lo hi mx=>rsP (P:=P) (Instr.sliceAt t (ev f x) (qo f lo) (qo f hi) (qo f mx)) w k
 | .makeInterface t x=>rsP (P:=P) (Instr.makeInterface t (ev f x)) w k
 | .call c=>(match c.callee with
  | .value (.func g)=>bif jw P g then clP (P:=P) g (evs f c.args) w k else noP
  | .value x=>cvP (P:=P) (ev f x) (evs f c.args) w k
  | .builtin .append=>rsP (P:=P) (Builtin.append_ c.argTypes o.type (evs f c.args).toArray) w k
  | .builtin .copy=>rsP (P:=P) (Builtin.copy_ c.argTypes o.type (evs f c.args).toArray) w k
  | .builtin .delete=>rsP (P:=P) (Builtin.delete_ c.argTypes o.type (evs f c.args).toArray) w k
  | .builtin .clear=>rsP (P:=P) (Builtin.clear_ c.argTypes o.type (evs f c.args).toArray) w k
  | .builtin .len=>rsP (P:=P) (Builtin.len_ c.argTypes o.type (evs f c.args).toArray) w k
  | .builtin .cap=>rsP (P:=P) (Builtin.cap_ c.argTypes o.type (evs f c.args).toArray) w k
  | _=>noP)
 | _=>noP
theorem Ab(P:Program)(f:Fr)(o:Oper)(w:World)(k:KP):(GH P f o w k).out=eff P f o w λv w=>(k v w).out:=by
 unfold GH eff;cases o.op<;>try (unfold noP;rfl)
 case load t a=>
  simp only;cases lI P t with
  | none=>unfold noP;rfl
  | some b=>
   cases b with
   | false=>unfold ldP;rfl
   | true=>simp only;cases bN P t<;>first|(unfold noP;rfl)|(unfold BD;rfl)
 case store t a x=>simp only;cases bN P t<;>first|(unfold noP;rfl)|(unfold stP;rfl)
 case alloc t=>simp only;cases Bg P t<;>first|(unfold noP;rfl)|(unfold um;rfl)
 case box=>unfold um;rfl
 case mapUpdate=>unfold ruP;rfl
 case insert=>unfold ruP;rfl
 case binOp=>unfold rsP DN;rfl
 case call c=>
  simp only;cases c.callee with
  | value x=>
   cases x<;>try (unfold cvP;rfl)
   rename_i g;simp only;cases jw P g<;>first|(unfold noP;rfl)|(unfold clP;rfl)
  | builtin b=>cases b<;>first|(unfold noP;rfl)|(unfold rsP;rfl)
  | _=>unfold noP;rfl
 all_goals (unfold rsP;rfl)
def Bx(P:Program)(f:Fr)(o:Oper)(w:World)(k:KP):PP:=match mvV f o with
 | some v=>k v w
 | none=>(match pu P f o with
  | some r=>puP r λv=>k v w
  | none=>GH P f o w k)
theorem fO(P:Program)(f:Fr)(o:Oper)(w:World)(k:KP):(Bx P f o w k).out=exO P f o w λv w=>(k v w).out:=by
 unfold Bx exO;cases mvV f o with
 | some v=>rfl
 | none=>
  cases pu P f o with
  | some r=>unfold puP;rfl
  | none=>exact Ab ..
def KGP(P:Program)(n:Nat)(la:Oper):List Oper->Fr->World->KP->PP
 | [],f,w,kk=>Bx P f la w kk
 | o::l,f,w,kk=>Bx P f o w (λv w'=>KGP P n la l (fU n f o.dst v) w' kk)
theorem vB(P:Program)(n:Nat)(la:Oper):∀(l:List Oper) (f:Fr) (w:World) (k:KP),(KGP P n la l f w k).out=KG P n la l f w λv w=>(k v w).out
 | [],f,w,k=>fO ..
 | o::l,f,w,k=>by rw[KGP,KG,fO];congr;funext v w';exact vB P n la l _ w' k
def KOP(P:Program)(n:Nat)(ops:Array Oper):Nat->List Oper->Fr->World->(Fr->World->PP)->PP
 | _,[],f,w,k=>k f w
 | 0,_::_,_,_,_=>noP
 | m+1,o::l,f,w,k=>match o.guard with
  | none=>Bx P f o w (λv w'=>KOP P n ops m l (fU n f o.dst v) w' k)
  | some (j,b)=>match gi (jx ((ops.toList[j]?).bind (·.dst)) j b) o l with
   | ([],la,re)=>gdP (isB b (yl ops f j)) (λk'=>Bx P f la w k') w (λv w'=>KOP P n ops m re (fU n f la.dst v) w' k)
   | (x::fr,la,re)=>ggP (isB b (yl ops f j)) (KGP P n la (x::fr) f w) w (λg v w'=>KOP P n ops m re (fU n (hav (ga (x::fr)) g f) la.dst v) w' k)
theorem mU(P:Program)(n:Nat)(ops:Array Oper):∀(m:Nat) (l:List Oper) (f:Fr) (w:World) (k:Fr->World->PP),(KOP P n ops m l f w k).out=KO P n ops m l f w λf w=>(k f w).out
 | 0,[],f,w,k=>rfl
 | m+1,[],f,w,k=>rfl
 | 0,_::_,f,w,k=>by rw[KOP,KO];unfold noP;rfl
 | m+1,o::l,f,w,k=>by
  rw[KOP,KO];cases o.guard with
  | none=>simp only;rw[fO];congr;funext v w';exact mU P n ops m l _ w' k
  | some g=>
   obtain⟨j,b⟩:=g;simp only;cases gi (jx ((ops.toList[j]?).bind (·.dst)) j b) o l with
   | mk fr r=>
    obtain⟨la,re⟩:=r;cases fr with
    | nil=>simp only;unfold gdP;simp only[fO,mU P n ops m re _ _ k]
    | cons x fr=>simp only;unfold ggP;simp only[vB,mU P n ops m re _ _ k]
def gxP(P:Program)(ops:Array Oper)(f:Fr)(o:Oper)(w:World)(k:KP):PP:=match o.guard with
 | none=>Bx P f o w k
 | some (j,b)=>gdP (isB b (yl ops f j)) (λk'=>Bx P f o w k') w k
theorem kz(P:Program)(ops:Array Oper)(f:Fr)(o:Oper)(w:World)(k:KP):(gxP P ops f o w k).out=gx P ops f o w λv w=>(k v w).out:=by
 unfold gxP gx;cases o.guard with
 | none=>exact fO ..
 | some g=>simp only;unfold gdP;simp only[fO]
def tE(p:Oper->Nat->Bool)(X:Oper->Nat->PP):List Oper->Nat->PP
 | [],_=>yesP
 | o::l,k=>bif p o k then ot (X o k) (tE p X l (k+1)) else tE p X l (k+1)
theorem jS(p:Oper->Nat->Bool)(X:Oper->Nat->PP):∀(l:List Oper) (k:Nat),(tE p X l k).out=Bl p (λo k=>(X o k).out) l k
 | [],k=>by rw[tE,Bl];unfold yesP;rfl
 | o::l,k=>by
  rw[tE,Bl];cases p o k with
  | true=>simp only[cond_true];unfold ot;rw[jS p X l]
  | false=>simp only[cond_false];rw[jS p X l]
def ju(P:Program)(n:Nat)(ops:Array Oper)(L:List Oper)(W:List Nat)(hc:Bool)(C:World->Prop)(k:Fr->World->PP):Nat->Nat->Fr->World->PP
 | 0,m,f,w=>match gJ (kZ m) L 0 with
  | none=>k f w
  | some _=>noP
 | fuel+1,m,f,w=>match gJ (λo i=>kZ m o i&&!cK P o) L 0 with
  | some i=>(match L[i]? with
   | some o=>bif qL ops o i m L 0 then
     (bif CE P f o then gxP P ops f o w (λv w'=>ju P n ops L W hc C k fuel (gl m i) (fU n f o.dst v) w')
      else bif aOk P W i m L 0 then gxP P ops f o w (λv w'=>Gg w' w (ju P n ops L W hc C k fuel (gl m i) (fU n f o.dst v) w))
      else bif zV P W L o i then DP λv=>ot (zC C λw'=>gxP P ops f o w' (λu w2=>Gc u v w2 w')) (ju P n ops L W hc C k fuel (gl m i) (fU n f o.dst v) w) else noP)
    else noP
   | none=>noP)
  | none=>match gJ (kZ m) L 0 with
   | none=>k f w
   | some i=>(match L[i]? with
    | some o=>(match gJ (λo j=>kZ m o j&&!(Nat.beq j i)) L 0 with
     | none=>gxP P ops f o w (λv w'=>bif hc&&fE P W L (gl m i) L 0 then Bm C w' (ju P n ops L W hc C k fuel (gl m i) (fU n f o.dst v) w') else ju P n ops L W hc C k fuel (gl m i) (fU n f o.dst v) w')
     | some _=>tE (kZ m) (λo i=>gxP P ops f o w (λv w'=>bif hc&&fE P W L (gl m i) L 0 then Bm C w' (ju P n ops L W hc C k fuel (gl m i) (fU n f o.dst v) w') else ju P n ops L W hc C k fuel (gl m i) (fU n f o.dst v) w')) L 0)
    | none=>noP)
theorem Bi(b:Bool)(C:World->Prop)(w:World)(p:PP):(bif b then Bm C w p else p).out=CK b C w p.out:=by
 unfold CK;cases b with
 | true=>simp only[cond_true];unfold Bm;rfl
 | false=>rfl
theorem jP(P:Program)(n:Nat)(ops:Array Oper)(L:List Oper)(W:List Nat)(hc:Bool)(C:World->Prop)(k:Fr->World->PP):∀(fuel m:Nat) (f:Fr) (w:World),(ju P n ops L W hc C k fuel m f w).out=oa P n ops L W hc C (λf w=>(k f w).out) fuel m f w
 | 0,m,f,w=>by
  rw[ju,oa];cases gJ (kZ m) L 0 with
  | none=>rfl
  | some _=>unfold noP;rfl
 | fuel+1,m,f,w=>by
  have ih:=jP P n ops L W hc C k fuel;rw[ju,oa];cases gJ (λo i=>kZ m o i&&!cK P o) L 0 with
  | some i=>
   simp only;cases L[i]? with
   | none=>unfold noP;rfl
   | some o=>
    simp only;cases qL ops o i m L 0 with
    | false=>unfold noP;rfl
    | true=>
     simp only[cond_true];cases CE P f o with
     | true=>simp only[cond_true];rw[kz];simp only[ih]
     | false=>
      simp only[cond_false];cases aOk P W i m L 0 with
      | true=>simp only[cond_true];rw[kz];unfold Gg;simp only[ih]
      | false=>
       simp only[cond_false];cases zV P W L o i with
       | false=>unfold noP;rfl
       | true=>simp only[cond_true];unfold DP ot zC;simp only[kz,ih];unfold Gc;rfl
  | none=>
   simp only;cases gJ (kZ m) L 0 with
   | none=>rfl
   | some i=>
    simp only;cases L[i]? with
    | none=>unfold noP;rfl
    | some o=>
     simp only;cases gJ (λo j=>kZ m o j&&!(Nat.beq j i)) L 0 with
     | none=>simp only;rw[kz];simp only[Bi,ih]
     | some _=>simp only;rw[jS];simp only[kz,Bi,ih]
abbrev DrawP:=Program->Nat->Array Oper->Fr->World->(Fr->World->PP)->PP
def KDP:DrawP:=λP n ops f w k=>
 bif BP ops.toList&&okW (mkW ops.toList []) ops.toList 0 then
  (bif xO P (mkW ops.toList []) ops.toList ops.toList 0 then Gh λC=>Bm C w.drew (ju P n ops ops.toList (mkW ops.toList []) true C k ops.toList.length 0 f w.drew)
   else ju P n ops ops.toList (mkW ops.toList []) false (λ_=>True) k ops.toList.length 0 f w.drew)
 else noP
theorem BZ(P:Program)(n:Nat)(ops:Array Oper)(f:Fr)(w:World)(k:Fr->World->PP):(KDP P n ops f w k).out=KD P n ops f w λf w=>(k f w).out:=by
 unfold KDP KD;cases BP ops.toList&&okW (mkW ops.toList []) ops.toList 0 with
 | false=>unfold noP;rfl
 | true=>
  simp only[cond_true];cases xO P (mkW ops.toList []) ops.toList ops.toList 0 with
  | true=>simp only[cond_true];unfold Gh Bm;simp only[jP]
  | false=>simp only[cond_false];exact jP ..
def zv:List Nat->(Fr->PP)->Fr->PP
 | [],p,f=>p f
 | s::L,p,f=>FZ λv=>zv L p (upd f s v)
theorem od:∀(L:List Nat) (p:Fr->PP) (f:Fr),(zv L p f).out=DS L (λf=>(p f).out) f
 | [],p,f=>rfl
 | s::L,p,f=>by rw[zv,DS];unfold FZ;simp only[od L p]
def DU:List Nat->List Value->(Fr->PP)->Fr->List Value->PP
 | [],acc,p,f,vs=>Gf vs acc (p f)
 | s::L,acc,p,f,vs=>DP λv=>DU L (acc++[v]) p (upd f s v) vs
theorem rR:∀(L:List Nat) (acc:List Value) (p:Fr->PP) (f:Fr) (vs:List Value),(DU L acc p f vs).out=ExV L acc (λf=>(p f).out) f vs
 | [],acc,p,f,vs=>by rw[DU,ExV];unfold Gf;rfl
 | s::L,acc,p,f,vs=>by rw[DU,ExV];unfold DP;simp only[rR L _ p]
def KT(P:Program)(n:Nat)(lv:Nat->List Nat)(jn:Nat->Option (List Nat)):Code->(Ex->Fr->World->PP)->Fr->World->PP
 | .skip,Q,f,w=>Q .normal f w
 | .label _,Q,f,w=>Q .normal f w
 | .region _ ops d,Q,f,w=>bif d then KDP P n ops f w (Q .normal) else KOP P n ops ops.toList.length ops.toList f w (Q .normal)
 | .seq a b,Q,f,w=>match jn (zu b) with
  | none=>KT P n lv jn a (λe f' w'=>match e with
   | .normal=>KT P n lv jn b Q f' w'
   | .exit i=>Q (.exit i) f' w'
   | .ret=>Q .ret f' w') f w
  | some L=>jnP (λvs w'=>FX λg=>DU L [] (λf'=>KT P n lv jn b Q f' w') (hav (mn a) g f) vs)
    (λkk=>KT P n lv jn a (λe f' w'=>match e with
     | .normal=>kk (L.map f') w'
     | .exit i=>Q (.exit i) f' w'
     | .ret=>Q .ret f' w') f w)
 | .cond c x y,Q,f,w=>ifP (ev f c) (KT P n lv jn x Q f w) (KT P n lv jn y Q f w)
 | .block id c,Q,f,w=>KT P n lv jn c (λe f' w'=>match e with
  | .normal=>Q .normal f' w'
  | .exit i=>bif Nat.beq i id then Q .normal f' w' else Q (.exit i) f' w'
  | .ret=>Q .ret f' w') f w
 | .loop c,Q,f,w=>Gi λI μ=>ot (iP I ((lv (br c)).map f) w) (FY λg w'=>zv (lv (br c)) (λf1=>Gj I ((lv (br c)).map f1) w' (KT P n lv jn c (λe f2 w2=>match e with
    | .normal=>Gb I μ ((lv (br c)).map f2) w2 ((lv (br c)).map f1) w'
    | .exit i=>Q (.exit i) f2 w2
    | .ret=>Q .ret f2 w2) f1 w')) (hav (mn c) g f))
 | .exit id,Q,f,w=>Q (.exit id) f w
 | .ret,Q,f,w=>Q .ret f w
 | _,_,_,_=>noP
theorem Eb(P:Program)(n:Nat)(lv:Nat->List Nat)(jn:Nat->Option (List Nat))(c:Code):∀(Q:Ex->Fr->World->PP) (f:Fr) (w:World),(KT P n lv jn c Q f w).out=K KD P n lv jn c (λe f w=>(Q e f w).out) f w:=by
 induction c with
 | region id ops d=>
  intro Q f w;rw[KT,K];cases d with
  | true=>exact BZ ..
  | false=>exact mU ..
 | seq a b iha ihb=>
  intro Q f w;rw[KT,K];cases jn (zu b) with
  | none=>simp only;rw[iha];congr;funext e f' w';cases e<;>first|exact ihb .. | rfl
  | some L=>simp only;unfold jnP FX;simp only[rR,ihb,iha];congr;funext kk;congr;funext e f' w';cases e<;>rfl
 | cond c x y ihx ihy=>intro Q f w;rw[KT,K];unfold ifP;simp only[ihx,ihy]
 | block id c ih=>intro Q f w;rw[KT,K,ih];congr;funext e f' w';cases e<;>first|rfl|(rename_i i;simp only;cases Nat.beq i id<;>rfl)
 | loop c ih=>
  intro Q f w;rw[KT,K];unfold Gi ot iP FY;simp only[od];unfold Gj;simp only[ih];unfold Gb;congr;funext I;congr;funext μ;congr;apply propext;have e:∀(f1:Fr) (w':World),(λe f2 w2=>(match e with
    | .normal=>(⟨I ((lv (br c)).map f2) w2/\μ ((lv (br c)).map f2) w2<μ ((lv (br c)).map f1) w'⟩:PP)
    | .exit i=>Q (.exit i) f2 w2
    | .ret=>Q .ret f2 w2:PP).out)=(λ(e:Ex) (f2:Fr) (w2:World)=>(match e with
    | .normal=>I ((lv (br c)).map f2) w2/\μ ((lv (br c)).map f2) w2<μ ((lv (br c)).map f1) w'
    | .exit i=>(Q (.exit i) f2 w2).out
    | .ret=>(Q .ret f2 w2).out:Prop)):=by
   intro f1 w';funext e f2 w2;cases e<;>rfl
  simp only[e];exact Iff.rfl
 | _=>intro Q f w;first|rfl|(show noP.out=False;unfold noP;rfl)
def vz(P:Program)(f:Fr)(w:World)(k:KV):List ResultVar->List Value->PP
 | [],acc=>DR acc w k
 | .tmp t::l,acc=>vz P f w k l (acc++[f t])
 | .cell a t::l,acc=>match lI P t with
  | some false=>ldP w (f a) λv _=>vz P f w k l (acc++[v])
  | some true=>(match bN P t with
   | some n=>BD n w (f a) λv _=>vz P f w k l (acc++[v])
   | none=>noP)
  | none=>noP
theorem jJ(P:Program)(f:Fr)(w:World)(k:KV):∀(l:List ResultVar) (acc:List Value),(vz P f w k l acc).out=ch ((bO P f w l).map (acc++·)) w k
 | [],acc=>by rw[vz];unfold DR;simp[bO]
 | .tmp t::l,acc=>by rw[vz,jJ P f w k l];simp only[bO,pO];cases bO P f w l<;>simp
 | .cell a t::l,acc=>by
  rw[vz];simp only[bO,pO];have no:∀{r:Option (List Value)},r=none->noP.out=ch r w k:=by rintro _ rfl;unfold noP;rfl
  cases hx:f a<;>try (cases lI P t with
   | none=>exact no rfl
   | some g=>
    cases g with
    | false=>unfold ldP;exact dw (λh=>h.out.elim) (λh=>h.elim)
    | true=>
     simp only;cases bN P t with
     | none=>exact no rfl
     | some n=>unfold BD;exact dw (λh=>h.out.elim) (λh=>h.elim))
  rename_i ad;cases ad with
  | none=>
   cases lI P t with
   | none=>exact no rfl
   | some g=>
    cases g with
    | false=>unfold ldP;exact dw (λh=>h.out.elim) (λh=>h.elim)
    | true=>
     simp only;cases bN P t with
     | none=>exact no rfl
     | some n=>unfold BD;exact dw (λh=>h.out.elim) (λh=>h.elim)
  | some b=>
   simp only;cases lI P t with
   | none=>exact no rfl
   | some g=>
    cases g with
    | false=>
     unfold ldP;simp only[rU];cases w.cell? b with
     | none=>exact dw (λh=>h.out.elim) (λh=>h.elim)
     | some v=>simp only[bH,jJ P f w k l];cases bO P f w l<;>simp
    | true=>
     simp only;cases bN P t with
     | none=>exact no rfl
     | some n=>
      unfold BD;simp only[vC,aM];cases bE w b 0 n with
      | none=>exact dw (λh=>h.out.elim) (λh=>h.elim)
      | some v=>simp only[Option.map_some,bH,jJ P f w k l];cases bO P f w l<;>simp
def AM(P:Program)(fn:Func)(k:KV):Ex->Fr->World->PP
 | .normal,f,w=>vz P f w k fn.results.toList []
 | .ret,f,w=>vz P f w k fn.results.toList []
 | .exit _,_,_=>noP
theorem AN(P:Program)(fn:Func)(k:KV):(λe f w=>(AM P fn k e f w).out)=Dd P fn k:=by funext e f w;cases e<;>simp only[AM,Dd,jJ]<;>first|(unfold noP;rfl)|(cases bO P f w fn.results.toList<;>simp)
theorem cT0{P:Program}(hm:P.follows .mixedOrders=true)(lv:Nat->List Nat)(jn:Nat->Option (List Nat)){g:FuncId}{fn:Func}{args:List Value}{w:World}{k:KV}{t:PP}
  (hf:P.funcs[g]?=some fn) (hb:fn.body.isSome=true) (hn:Nat.ble args.length fn.ntmps=true) (he:KT P fn.ntmps lv jn (fn.body.getD .skip) (AM P fn k) (og args) w=t) (h:t.out):Cl P g args w k:=by
 refine cE0 rT hm lv jn hf hb hn rfl ?_;rw[<- AN,<- Eb,he];exact h
theorem wj(d:TypeDesc)(s t:ByteArray):ax d .geq (.string s) (.string t)=some (.bool !(Op.bytesLess s.toList t.toList)):=rfl
theorem mx2(a b:Int):az aP [.int .i64 a,.int .i64 b]=some (.int .i64 (max a b)):=by show some (Value.int _ (if b > a then b else a))=_;congr 2;split<;>omega
theorem RT0:(∀(r:Option Value) (k:Value->PP),(puP r k).out=Pu r λv=>(k v).out) /\
 (∀(w:World) (x:Value) (k:KP),(ldP w x k).out=Ld w x λv w=>(k v w).out) /\
 (∀(n:Nat) (w:World) (x:Value) (k:KP),(BD n w x k).out=LdN n w x λv w=>(k v w).out) /\
 (∀(n:Nat) (w:World) (x u:Value) (k:KP),(stP n w x u k).out=St n w x u λv w=>(k v w).out) /\
 (∀(cs:Array Value) (t:TypeId) (w:World) (k:KP),(um cs t w k).out=New cs t w λv w=>(k v w).out) /\
 (∀{P:Program} (s:Sem Value) (w:World) (k:KP),(rsP (P:=P) s w k).out=RunS P s w λv w=>(k v w).out) /\
 (∀{P:Program} (s:Sem Unit) (w:World) (k:KP),(ruP (P:=P) s w k).out=RunU P s w λv w=>(k v w).out) /\
 (∀{P:Program} (g:FuncId) (l:List Value) (w:World) (k:KP),(clP (P:=P) g l w k).out=Cl P g l w λv w=>(k v w).out) /\
 (∀{P:Program} (g:Value) (l:List Value) (w:World) (k:KP),(cvP (P:=P) g l w k).out=ClV P g l w λv w=>(k v w).out) /\
 (∀(c:Bool) (X:KP->PP) (w:World) (k:KP),(gdP c X w k).out=Gd c (λk'=>(X λv w=>⟨k' v w⟩).out) w λv w=>(k v w).out) /\
 (∀(c:Bool) (X:KP->PP) (w:World) (k:Fr->KP),(ggP c X w k).out=GdG c (λk'=>(X λv w=>⟨k' v w⟩).out) w λg v w=>(k g v w).out) /\
 (∀(v:Value) (a b:PP),(ifP v a b).out=IfB v a.out b.out):=by
 unfold puP ldP BD stP um rsP ruP clP cvP gdP ggP ifP;exact⟨λ_ _=>rfl,λ_ _ _=>rfl,λ_ _ _ _=>rfl,λ_ _ _ _ _=>rfl,λ_ _ _ _=>rfl,λ_ _ _=>rfl,λ_ _ _=>rfl,λ_ _ _ _=>rfl,λ_ _ _ _=>rfl,λ_ _ _ _=>rfl,λ_ _ _ _=>rfl,λ_ _ _=>rfl⟩
theorem RT1:noP.out=False/\yesP.out=True/\(∀(a b:PP),(ot a b).out=(a.out/\b.out)) /\
 (∀(C:World->Prop) (w:World) (p:PP),(Bm C w p).out=(C w/\p.out)) /\
 (∀(w w':World) (p:PP),(Gg w w' p).out=(w=w'/\p.out)) /\
 (∀(u v:Value) (w w':World),(Gc u v w w').out=(u=v/\w=w')) /\
 (∀(q:Value->PP),(DP q).out=∃v,(q v).out) /\
 (∀(q:(World->Prop)->PP),(Gh q).out=∃C,(q C).out) /\
 (∀(C:World->Prop) (q:World->PP),(zC C q).out=∀w,C w->(q w).out) /\
 (∀(B:List Value->World->PP) (A:(List Value->World->PP)->PP),(jnP B A).out=Jn (λvs w=>(B vs w).out) λkk=>(A λvs w=>⟨kk vs w⟩).out) /\
 (∀(q:Fr->PP),(FX q).out=∀g,(q g).out) /\
 (∀(q:Fr->World->PP),(FY q).out=∀g w,(q g w).out) /\
 (∀(q:Value->PP),(FZ q).out=∀v,(q v).out):=by
 unfold noP yesP ot Bm Gg Gc DP Gh zC jnP FX FY FZ;exact⟨rfl,rfl,λ_ _=>rfl,λ_ _ _=>rfl,λ_ _ _=>rfl,λ_ _ _ _=>rfl,λ_=>rfl,λ_=>rfl,λ_ _=>rfl,λ_ _=>rfl,λ_=>rfl,λ_=>rfl,λ_=>rfl⟩
theorem RT2:(∀(l m:List Value) (p:PP),(Gf l m p).out=(l=m/\p.out)) /\
 (∀(q:LP->LN->PP),(Gi q).out=∃I μ,(q I μ).out) /\
 (∀(I:LP) (l:List Value) (w:World),(iP I l w).out=I l w) /\
 (∀(I:LP) (l:List Value) (w:World) (p:PP),(Gj I l w p).out=(I l w->p.out)) /\
 (∀(I:LP) (μ:LN) (l:List Value) (w:World) (m:List Value) (w':World),(Gb I μ l w m w').out=(I l w/\μ l w<μ m w')) /\
 (∀(v:Value) (w:World) (k:KV),(DR [v] w k).out=k v w) /\
 (∀(w:World) (k:KV),(DR [] w k).out=k (.tuple #[]) w) /\
 (∀(a b:Value) (l:List Value) (w:World) (k:KV),(DR (a::b::l) w k).out=k (.tuple (List.toArray (a::b::l))) w) /\
 (∀p:Prop,(PP.mk p).out=p):=by
 unfold Gf Gi iP Gj Gb DR;exact⟨λ_ _ _=>rfl,λ_=>rfl,λ_ _ _=>rfl,λ_ _ _ _=>rfl,λ_ _ _ _ _ _=>rfl,λ_ _ _=>rfl,λ_ _=>rfl,λ_ _ _ _ _=>rfl,λ_=>rfl⟩
theorem RT3:(∀cs:Array Value,(Value.agg cs).cells=cs)/\(∀(k:IntKind) (n:Int),(Value.int k n).cells=#[.int k n])/\(∀s:ByteArray,(Value.string s).cells=#[.string s])/\(∀b:Bool,(Value.bool b).cells=#[.bool b])/\(∀a:Option Addr,(Value.pointer a).cells=#[.pointer a])/\(∀(a:Option Addr) (n c:Nat),(Value.slice a n c).cells=#[.slice a n c])/\(∀b:Option Nat,(Value.map b).cells=#[.map b]) /\
 (∀(P:Program) (g:FuncId) (x y:Array Value) (l:List Value) (w:World) (k:KV),jw P g=true->(ClV P (.func (.func g) x y) l w k↔Cl P g (x.toList++l++y.toList) w k)):=
 ⟨λ_=>rfl,λ_ _=>rfl,λ_=>rfl,λ_=>rfl,λ_=>rfl,λ_ _ _=>rfl,λ_=>rfl,λP g x y l w k hb=>⟨λh=>by have:=h.out;simp only[ClV0,hb,cond_true] at this;exact this,λh=>⟨by simp only[ClV0,hb,cond_true];exact h⟩⟩⟩
end Go.Al
namespace Go.Proofs.YtmdmffeoehfjgaaGreatDoor
open Go.Al Go.Proofs Go.Proofs.Tryz
attribute [local irreducible] World.drew undef ax aD bj bB faV ixV ixS ixA aX cJ ixG unV cvI cvS slS slV lenV bo cQ aQ aP aR az isB Instr.build Instr.buildSlice Instr.lookup Instr.mapUpdate Instr.range Instr.next Instr.entry Instr.makeMap Instr.makeSlice convert binOp Instr.sliceAt Instr.makeInterface Builtin.append_ Builtin.copy_ Builtin.delete_ Builtin.clear_ Builtin.len_ Builtin.cap_ Value.cells
abbrev F0:Nat->Prop:=λ_=>False
def V:List (Nat×List Nat)->Nat->List Nat
 | [],_=>[]
 | (i,l)::r,j=>bif Nat.beq j i then l else V r j
def J:List (Nat×List Nat)->Nat->Option (List Nat)
 | [],_=>none
 | (i,l)::r,j=>bif Nat.beq j i then some l else J r j
theorem RW0:(∀l:List UInt8,ByteArray.mk (Array.mk l)=str l)/\(∀l:Bs,(str l).size=l.length)/\(∀a b:Bs,(str a=str b)=(a=b))/\Int.negSucc 0 = -1/\(∀{α:Type} (l:List α) (i:Nat),(List.toArray l)[i]?=l[i]?)/\(∀{α:Type} (a:α) (l:List α),(a::l)[0]?=some a)/\(∀{α:Type} (a:α) (l:List α) (i:Nat),(a::l)[i+1]?=l[i]?) /\
 (∀p:Prop,(True/\p)=p)/\(∀p:Prop,(∀_:Fr,p)=p)/\(∀(x:Value) (p:Value->Prop),(∃v,[x]=[v]/\p v)=p x)/\(∀(x y:Value) (p:Value->Value->Prop),(∃v u,[x,y]=[v,u]/\p v u)=p x y):=
 ⟨λ_=>rfl,aq,λ_ _=>propext bn,rfl,λ_ _=>by simp,λ_ _=>rfl,λ_ _ _=>rfl,true_and,λp=>propext ⟨λh=>h (λ_=>undef),λh _=>h⟩,λx p=>propext ⟨λ⟨v,h,hp⟩=>by cases h;exact hp,λh=>⟨x,rfl,h⟩⟩,λx y p=>propext ⟨λ⟨v,u,h,hp⟩=>by cases h;exact hp,λh=>⟨x,y,rfl,h⟩⟩⟩
theorem RW1:Int.ofNat 0=0/\Int.ofNat 1=1/\Int.ofNat 2=2/\Int.ofNat 3=3/\Int.ofNat 4=4/\Int.ofNat 5=5/\Int.ofNat 6=6/\Int.ofNat 7=7/\Int.ofNat 8=8/\Int.ofNat 9=9/\Int.ofNat 10=10/\Int.ofNat 11=11/\Int.ofNat 12=12/\Int.ofNat 13=13/\Int.ofNat 14=14/\Int.ofNat 15=15/\Int.ofNat 16=16/\Int.ofNat 17=17/\Int.ofNat 18=18/\Int.ofNat 19=19/\Int.ofNat 20=20/\Int.ofNat 21=21/\Int.ofNat 22=22/\Int.ofNat 23=23/\Int.ofNat 24=24/\Int.ofNat 25=25/\Int.ofNat 26=26/\Int.ofNat 27=27/\Int.ofNat 28=28/\Int.ofNat 29=29/\Int.ofNat 30=30/\Int.ofNat 31=31/\Int.ofNat 32=32/\Int.ofNat 50=50/\Int.ofNat 51=51/\Int.ofNat 54=54/\Int.ofNat 60=60/\Int.ofNat 63=63/\Int.ofNat 64=64/\Int.ofNat 65=65/\Int.ofNat 70=70/\Int.ofNat 100=100/\Int.ofNat 110=110/\Int.ofNat 120=120/\Int.ofNat 121=121/\Int.ofNat 127=127/\Int.ofNat 140=140/\Int.ofNat 150=150/\Int.ofNat 160=160/\Int.ofNat 180=180/\Int.ofNat 181=181/\Int.ofNat 182=182/\Int.ofNat 183=183/\Int.ofNat 184=184/\Int.ofNat 220=220/\Int.ofNat 221=221/\Int.ofNat 222=222/\Int.ofNat 223=223/\Int.ofNat 224=224/\Int.ofNat 255=255/\Int.ofNat 500=500/\Int.ofNat 512=512/\Int.ofNat 700=700/\Int.ofNat 1024=1024/\Int.ofNat 1500=1500/\Int.ofNat 4096=4096/\Int.ofNat 8191=8191/\Int.ofNat 65535=65535:=⟨rfl,rfl,rfl,rfl,rfl,rfl,rfl,rfl,rfl,rfl,rfl,rfl,rfl,rfl,rfl,rfl,rfl,rfl,rfl,rfl,rfl,rfl,rfl,rfl,rfl,rfl,rfl,rfl,rfl,rfl,rfl,rfl,rfl,rfl,rfl,rfl,rfl,rfl,rfl,rfl,rfl,rfl,rfl,rfl,rfl,rfl,rfl,rfl,rfl,rfl,rfl,rfl,rfl,rfl,rfl,rfl,rfl,rfl,rfl,rfl,rfl,rfl,rfl,rfl,rfl,rfl,rfl,rfl⟩
theorem jn1(B:List Value->World->Prop)(A:(List Value->World->Prop)->Prop):Jn B A=A B:=propext ⟨λh=>h.out,λh=>⟨h⟩⟩
theorem RU:type_of% (And.intro @RS (And.intro @RT0 (And.intro @RT1 (And.intro @RT2 (And.intro @RT3 (And.intro RW0 RW1)))))):=And.intro @RS (And.intro @RT0 (And.intro @RT1 (And.intro @RT2 (And.intro @RT3 (And.intro RW0 RW1)))))
theorem cU0{f:FuncId}{fn:Func}{w:World}{k:KV}{t:World->KV->PP}{q:Prop}(hf:prog.funcs[f]?=some fn)(h:q)(lv:Nat->List Nat:=V [])(jn:Nat->Option (List Nat):=J [])(hb:fn.body.isSome=true:=by kernel_rfl)(hn:Nat.ble 0 fn.ntmps=true:=by kernel_rfl)(he:∀w k,KT prog fn.ntmps lv jn (fn.body.getD .skip) (AM prog fn k) (og []) w=t w k:=by intro w k;conv=>lhs;reduce)(hq:(t w k).out=q:=by conv=>lhs;simp only[RU]):Cl prog f [] w k:=cT0 mixed lv jn hf hb hn (he w k) (hq▸h)
theorem cU1{f:FuncId}{fn:Func}{a:Value}{w:World}{k:KV}{t:Value->World->KV->PP}{q:Prop}(hf:prog.funcs[f]?=some fn)(h:q)(lv:Nat->List Nat:=V [])(jn:Nat->Option (List Nat):=J [])(hb:fn.body.isSome=true:=by kernel_rfl)(hn:Nat.ble 1 fn.ntmps=true:=by kernel_rfl)(he:∀a w k,KT prog fn.ntmps lv jn (fn.body.getD .skip) (AM prog fn k) (og [a]) w=t a w k:=by intro a w k;conv=>lhs;reduce)(hq:(t a w k).out=q:=by conv=>lhs;simp only[RU]):Cl prog f [a] w k:=cT0 mixed lv jn hf hb hn (he a w k) (hq▸h)
theorem cU2{f:FuncId}{fn:Func}{a b:Value}{w:World}{k:KV}{t:Value->Value->World->KV->PP}{q:Prop}(hf:prog.funcs[f]?=some fn)(h:q)(lv:Nat->List Nat:=V [])(jn:Nat->Option (List Nat):=J [])(hb:fn.body.isSome=true:=by kernel_rfl)(hn:Nat.ble 2 fn.ntmps=true:=by kernel_rfl)(he:∀a b w k,KT prog fn.ntmps lv jn (fn.body.getD .skip) (AM prog fn k) (og [a,b]) w=t a b w k:=by intro a b w k;conv=>lhs;reduce)(hq:(t a b w k).out=q:=by conv=>lhs;simp only[RU]):Cl prog f [a,b] w k:=cT0 mixed lv jn hf hb hn (he a b w k) (hq▸h)
theorem cU3{f:FuncId}{fn:Func}{a b c:Value}{w:World}{k:KV}{t:Value->Value->Value->World->KV->PP}{q:Prop}(hf:prog.funcs[f]?=some fn)(h:q)(lv:Nat->List Nat:=V [])(jn:Nat->Option (List Nat):=J [])(hb:fn.body.isSome=true:=by kernel_rfl)(hn:Nat.ble 3 fn.ntmps=true:=by kernel_rfl)(he:∀a b c w k,KT prog fn.ntmps lv jn (fn.body.getD .skip) (AM prog fn k) (og [a,b,c]) w=t a b c w k:=by intro a b c w k;conv=>lhs;reduce)(hq:(t a b c w k).out=q:=by conv=>lhs;simp only[RU]):Cl prog f [a,b,c] w k:=cT0 mixed lv jn hf hb hn (he a b c w k) (hq▸h)
theorem cU4{f:FuncId}{fn:Func}{a b c d:Value}{w:World}{k:KV}{t:Value->Value->Value->Value->World->KV->PP}{q:Prop}(hf:prog.funcs[f]?=some fn)(h:q)(lv:Nat->List Nat:=V [])(jn:Nat->Option (List Nat):=J [])(hb:fn.body.isSome=true:=by kernel_rfl)(hn:Nat.ble 4 fn.ntmps=true:=by kernel_rfl)(he:∀a b c d w k,KT prog fn.ntmps lv jn (fn.body.getD .skip) (AM prog fn k) (og [a,b,c,d]) w=t a b c d w k:=by intro a b c d w k;conv=>lhs;reduce)(hq:(t a b c d w k).out=q:=by conv=>lhs;simp only[RU]):Cl prog f [a,b,c,d] w k:=cT0 mixed lv jn hf hb hn (he a b c d w k) (hq▸h)
theorem cU5{f:FuncId}{fn:Func}{a b c d e:Value}{w:World}{k:KV}{t:Value->Value->Value->Value->Value->World->KV->PP}{q:Prop}(hf:prog.funcs[f]?=some fn)(h:q)(lv:Nat->List Nat:=V [])(jn:Nat->Option (List Nat):=J [])(hb:fn.body.isSome=true:=by kernel_rfl)(hn:Nat.ble 5 fn.ntmps=true:=by kernel_rfl)(he:∀a b c d e w k,KT prog fn.ntmps lv jn (fn.body.getD .skip) (AM prog fn k) (og [a,b,c,d,e]) w=t a b c d e w k:=by intro a b c d e w k;conv=>lhs;reduce)(hq:(t a b c d e w k).out=q:=by conv=>lhs;simp only[RU]):Cl prog f [a,b,c,d,e] w k:=cT0 mixed lv jn hf hb hn (he a b c d e w k) (hq▸h)
theorem bsl{s:Sem Value}{w:World}{k:KV}(n:Nat)(cs:Array Value)(e:TypeId)(hk:k (.slice (some ⟨w.heap.size,0,none⟩) n n) (w.alloc (.cells cs e)))(h:s.run prog w=.ok (.slice (some ⟨w.heap.size,0,none⟩) n n) (w.alloc (.cells cs e)):=by kernel_rfl):RunS prog s w k:=ag h hk
theorem bst{s:Sem Value}{w:World}{k:KV}(cs:Array Value)(hk:k (.agg cs) w)(h:s.run prog w=.ok (.agg cs) w:=by kernel_rfl):RunS prog s w k:=ag h hk
theorem rdP{C:World->Prop}{r:World->Option Value}{u:Value}{p:Value->Prop}(h:∀w',C w'->r w'=some u)(hk:p u):∃v,(∀w',C w'->Pu (r w') λx=>x=v/\True)/\p v:=⟨u,λw' hw=>by rw[h w' hw,bH];exact⟨rfl,trivial⟩,hk⟩
theorem bM(n w:Int):(eX n w).length<=8:=by
 unfold eX;by_cases h:8<w
 ·simp[h]
 ·cases decide (w<1)||decide (8<w)||decide (n<0)<;>simp[aI];omega
theorem ao{w:World}{b n:Nat}{cs us:Array Value}{t:TypeId}{k:KV}(hb:w.heap[b]?=some (.cells cs t))(h:∀w',w'.heap[b]?=some (.cells us t)->w'.heap.size=w.heap.size->Fm (·=b) w w'->k undef w')(hn:us.size=n:=by rfl)(hc:cs.size=n:=by rfl)(hu:us.toList.all Value.oneCell'=true:=by rfl):St n w (pv b) (.agg us) k:=by refine ck hb hn (by omega) (List.all_eq_true.1 hu) λw' h1 h2 h3=>h w' ?_ h2 h3;rw[h1,uy _ _ _ (by rw[Array.length_toList];omega),List.take_zero,List.nil_append,List.drop_of_length_le (by rw[Array.length_toList,Array.length_toList];omega),List.append_nil]
theorem aE{w:World}{n:Nat}{zs us:Array Value}{t:TypeId}{k:KV}(h:∀w',w'.heap.size=w.heap.size+1->w'.heap[w.heap.size]?=some (.cells us t)->Fm F0 w w'->k (pv w.heap.size) w')(hn:us.size=n:=by rfl)(hc:zs.size=n:=by rfl)(hu:us.toList.all Value.oneCell'=true:=by rfl):New zs t w λp w1=>St n w1 p (.agg us) λ_ w2=>k p w2:=by refine ae ?_;rintro b w1 rfl hs hw hf;exact ao hw (λw2 h1 h2 h3=>h w2 (by omega) h1 (Fm.own hf h3 (by rintro x rfl;exact Nat.le_refl _))) hn hc hu
theorem qZ{w:World}{base:Nat}{e:TypeId}{v:Value}{n:Nat}{xs:List Value}(h:w.ownsRow base e 1 v n xs){i:Nat}(hi:i<n):∃ad,ixV 1 v (iv i)=some (.pointer (some ad))/\v.ownBlock=some ad.block/\∀{u:Value} {k:KV},u.oneCell'=true->(∀w',w'.ownsRow base e 1 v n (xs.set i u)->w'.heap.size=w.heap.size->Fm (λy=>v.ownBlock=some y) w w'->k undef w')->St 1 w (.pointer (some ad)) u k:=by
 rcases h.2 with⟨rfl,hn⟩|⟨g,cap,cur,rfl,hbg,hgg,hnc,hcm,hcs,htake⟩
 ·omega
 ·rw[Nat.mul_one] at hcs htake;refine⟨⟨g,i,none⟩,by rw[dU hi,aC];simp,rfl,?_⟩;intro u k hu hk;refine au hgg (by omega) hu ?_;intro w' h1 h2 h3;refine hk w' ⟨by rw[List.length_set];exact h.1,.inr ⟨g,cap,_,rfl,hbg,h1,hnc,hcm,by simp[hcs],?_⟩⟩ h2 (h3.mono (λy _ e=>by rw[e];rfl));rw[Nat.mul_one,<- htake];simp[List.take_set]
theorem GZ{f:Fr}{w:World}{i j g n:Nat}{t t':TypeId}{cs:Array Value}{u:Value}{k:KV}(hb:w.heap[g]?=some (.cells cs t'))(hf:f i=pv g)(hu:f j=u)(hk:k (.tuple #[.agg cs,u]) w)(hn:cs.size=n:=by rfl)(hA:lI prog t=some true:=by kernel_rfl)(hS:bN prog t=some n:=by kernel_rfl):ch (bO prog f w [.cell i t,.tmp j]) w k:=by
 have e2:pO prog f w (.tmp j)=some u:=by simp only[pO,hu]
 simp only[bO,eH hf hA hS hb hn,e2,ch,vD];exact hk
theorem HA{A R:World->Prop}{G:Prop}(b:(∀w,A w->R w)->G)(a:∀w,A w->R w):G:=b a
theorem ig(l:List Int)(hl:l.length<=1000)(w:World)(e:TypeId):CellsAt (w.alloc (.cells (l.map iv).toArray e)) (.slice (some ⟨w.heap.size,0,none⟩) l.length l.length) l.length 1 (l.map iv):=by refine⟨⟨_,l.length,rfl,by omega,by unfold maxLen;omega,λe=>(by cases e),λj u hj=>⟨_,rfl,?_⟩⟩,by simp⟩;rw[aC,ab (aA w _),Nat.zero_add,List.getElem?_toArray];exact hj
open M (Tu keyOk tu dM deadB tuRd fH)
abbrev tuC(t:Tu):Array Value:=#[iv t.xmin,iv t.xmax,.bool false,stv t.key,stv t.val]
theorem keyOk_iff{k:Bs}:keyOk k=true↔0<k.length/\k.length<=24:=by unfold keyOk;rw[decide_eq_true_eq]
section
variable{w:World}
theorem mN{k:Bs}(h:keyOk k=true):Cl prog 417 [stv k] w λv w'=>v=.bool true/\w'=w:=by rw[keyOk_iff] at h;refine cU1 func417 ?_;simp only[RU,show decide (0<(k.length:Int))=true by simp;omega,show decide ((k.length:Int)<=24)=true by simp;omega,and_self]
theorem iC{t:Tu}(h:tu t=true):Cl prog 410 [.agg (tuC t)] w λv w'=>v=.tuple #[stv (dM t),iv 0]/\Fm F0 w w':=by unfold tu at h;rw[Bool.and_eq_true,decide_eq_true_eq] at h;obtain⟨⟨h1,h2,h3,h4,h5⟩,hk⟩:=h;have hk':=keyOk_iff.1 hk;refine cU1 func410 ?_ (V []) (J [(6,[4])]);refine ae ?_;intro b w1 rfl hs hw hf;have c:=λo=>ab (off:=o) hw;simp only[RU,c,decide_eq_false (show ¬t.xmin<1 by omega),decide_eq_false (show ¬1024<t.xmin by omega),decide_eq_false (show ¬t.xmax<0 by omega),decide_eq_false (show ¬1024<t.xmax by omega)];refine(mN hk).mono ?_;rintro _ _ ⟨rfl,rfl⟩;simp only[RU,c,decide_eq_false (show ¬(64:Int)<(t.val.length:Int) by omega),jn1];refine WS.new (Fm.refl _ _) ?_;intro w2 r hW hf2;have c:=λo=>ab (off:=o) (hW.fm.heap hw id);simp only[RU,c];refine hW.text (by omega) (by simp;omega) ?_;intro u w3 hW;have c:=λo=>ab (off:=o) (hW.fm.heap hw id);simp only[RU,c];have hl:=aK (n:=t.key.length) (by omega);refine hW.text (by omega) (by simp[iM];omega) ?_;intro u w4 hW;have hc:=λ(w':World) (h:Fm F0 w4 w') o=>ab (off:=o) (h.heap (hW.fm.heap hw id) id);refine⟨λw'=>Fm F0 w4 w',Fm.drew _ _,rdP (u:=iv t.xmin) (λw' h=>hc w' h 0) (rdP (u:=iv t.xmax) (λw' h=>hc w' h 1) ?_)⟩;refine(bu _ ⟨by omega,by omega⟩ _).mono ?_;rintro _ w5 ⟨rfl,g1⟩;have g1:=Fmf (Fm.drew F0 w4) g1;refine⟨g1,(bu _ ⟨by omega,by omega⟩ _).mono ?_⟩;rintro _ w6 ⟨rfl,g2⟩;have g2:=Fmf g1 g2;have b1:=bM 1 1;have b2:=bM t.xmin 2;have b3:=bM t.xmax 2;refine⟨g2,?_⟩;simp only[RU,mI (a:=eX 1 1) (b:=eX t.xmin 2) (by omega)];refine(bu _ ⟨by omega,by omega⟩ _).mono ?_;rintro _ w7 ⟨rfl,g3⟩;have hW:=hW.keep (Fmf g2 g3);simp only[RU,mI (a:=eX 1 1++eX t.xmin 2) (b:=eX t.xmax 2) (by rw[List.length_append];omega)];refine(dq hW.wr.1).mono ?_;rintro _ _ ⟨rfl,rfl⟩;simp only[RU,mI (a:=eX 1 1++eX t.xmin 2++eX t.xmax 2) (b:=[]++iM t.key++iM t.val) (by simp[iM];have:=aK (n:=t.val.length) (by omega);omega)];exact⟨rfl,Fmf hf hW.fm⟩
abbrev tu0:Tu:=⟨0,0,[],[]⟩
theorem fG{s:Bs}(hs:s.length<=1000000){x:Option Tu}(h:M.tuAt s=some x):Cl prog 202 [stv s] w λv w'=>v=.tuple #[.agg (tuC (x.getD tu0)),iv (bif x.isSome then 0 else 110)]/\Fm F0 w w':=by
 refine cU1 func202 ?_ (V []) (J [(5,[6])]);refine ae ?_;rintro b w1 rfl hs1 hw hf1;unfold M.tuAt at h;by_cases hl:s.length<5
 ·rw[decide_eq_true hl] at h;cases h;simp only[RU,decide_eq_true (show(s.length:Int)<5 by omega)];refine bst (tuC tu0) (ao hw λw2 hw2 hs2 hf2=>?_);simp only[RU,aa (n:=5) hw2 rfl];exact⟨rfl,Fm.own hf1 hf2 (by rintro y rfl;exact Nat.le_refl _)⟩
 ·rw[decide_eq_false hl,cond_false,Option.map_eq_some_iff] at h;obtain⟨t,h,rfl⟩:=h;unfold fH at h;cases hc:decide (5<=s.length)&&decide ((s.getD 0 0).toNat=1)&&decide (vy (tuRd s).2.2.1 (tuRd s).2.2.2=0)&&decide (ofN ((s.drop 1).take 2)≠0/\ofN ((s.drop 1).take 2)<=1024/\ofN ((s.drop 3).take 2)<=1024/\(tuRd s).1≠[]) with
  | false=>rw[hc] at h;cases h
  | true=>
  rw[hc] at h;cases h;simp only[Bool.and_eq_true,decide_eq_true_eq] at hc;obtain⟨⟨⟨g1,g2⟩,g3⟩,g4,g5,g6,g7⟩:=hc;have e0:ixS (stv s) (iv 0)=some (.int .u8 1):=by rw[show(iv 0)=.int .i64 ((0:Nat):Int) from rfl,dG (by omega),g2];rfl
  have e1:slS (stv s) (some (iv 5)) none=some (stv (s.drop 5)):=eT (i:=5) (by omega) .i64;have e2:slS (stv s) (some (iv 1)) (some (iv 3))=some (stv ((s.drop 1).take 2)):=mJ (i:=1) (j:=3) (by omega) (by omega) .i64 .i64;have e3:slS (stv s) (some (iv 3)) (some (iv 5))=some (stv ((s.drop 3).take 2)):=mJ (i:=3) (j:=5) (by omega) (by omega) .i64 .i64;simp only[RU,decide_eq_false (show ¬(s.length:Int)<5 by omega),e0,e1];refine(fM _ _).mono ?_;rintro _ w2 ⟨r,rfl,hr,hR,hf2⟩;have hf2:=Fmf (Fm.drew F0 w1) hf2;have hdl:(s.drop 5).length<=1000000:=by rw[List.length_drop];omega
  refine aJ (λvs w'=>∃b,vs=[pv b]/\w1.heap.size<=b/\w'.heap[b]?=some (.cells (tuC ⟨ofN ((s.drop 1).take 2),ofN ((s.drop 3).take 2),[],[]⟩) 302)/\RdAt w' r (s.drop 5) 0/\Fm F0 w1 w') ?_ ?_
  ·rintro _ w3 ⟨b,rfl,hb,hw3,hR,hf3⟩;have hbr:b≠r:=by rintro rfl;unfold RdAt at hR;rw[hw3] at hR;cases hR
   refine⟨_,rfl,(fX (st:=(s.drop 5,0)) hR hdl (by decide)).mono ?_⟩;rintro _ w4 ⟨rfl,hR,hf4⟩;refine(fX hR (Nat.le_trans (pQ (by decide) _).2 hdl) (by decide)).mono ?_;rintro _ w5 ⟨rfl,hR,hf5⟩;have hw5:=hf5.heap (hf4.heap hw3 hbr) hbr;have hf5:=Fm.own (Fm.own hf3 hf4 (by rintro y rfl;rw[aL] at hr;exact hr)) hf5 (by rintro y rfl;rw[aL] at hr;exact hr);simp only[RU];refine au hw5 (j:=3) (show 3<5 by decide) rfl λw6 hw6 hs6 hf6=>?_;refine au hw6 (j:=4) (show 4<5 by decide) rfl λw7 hw7 hs7 hf7=>?_
   replace hw7:w7.heap[b]?=some (.cells (tuC ⟨ofN ((s.drop 1).take 2),ofN ((s.drop 3).take 2),(tuRd s).1,(tuRd s).2.1⟩) 302):=hw7
   have hR:=hf7.heap (hf6.heap hR (λe=>hbr e.symm)) (λe=>hbr e.symm);have hf7:=Fm.own (Fm.own hf5 hf6 (by rintro y rfl;exact hb)) hf7 (by rintro y rfl;exact hb);refine(gP hR).mono ?_;rintro _ _ ⟨rfl,rfl⟩;rw[show vy (rt 64 (rt 24 (s.drop 5,0)).2).2.1 (rt 64 (rt 24 (s.drop 5,0)).2).2.2=0 from g3];have c:=λo=>ab (off:=o) hw7;simp only[RU,show((0:Int) != 0)=false from rfl,jX,show jU .u8 1 2=1 from rfl,show((1:Int) != 1)=false from rfl,c,show((ofN ((s.drop 1).take 2):Int) == 0)=false by rw[aV,decide_eq_false_iff_not];omega,decide_eq_false (show ¬(1024:Int)<(ofN ((s.drop 1).take 2):Int) by omega),decide_eq_false (show ¬(1024:Int)<(ofN ((s.drop 3).take 2):Int) by omega),decide_eq_false g7,aa (n:=5) hw7 rfl];have hwb:=hf7.heap hw id;refine ao hwb λw8 hw8 hs8 hf8=>?_;simp only[RU,aa (n:=5) hw8 rfl];exact⟨rfl,Fm.own (Fmf hf1 hf7) hf8 (by rintro y rfl;exact Nat.le_refl _)⟩
  ·intro kk hkk;have z1:=hf2.size;have o1:=λw'=>cZ w' ((s.drop 1).take 2) (by simp;omega);have o2:=λw'=>cZ w' ((s.drop 3).take 2) (by simp;omega);have S:∀(w4:World) (b:Nat),Fm F0 w2 w4->w2.heap.size<=b->w4.heap[b]?=some (.cells (tuC tu0) 302)->St 5 w4 (pv b) (.agg (tuC ⟨ofN ((s.drop 1).take 2),ofN ((s.drop 3).take 2),[],[]⟩)) λ_ w=>kk [pv b] w:=λw4 b hf hb hw=>ao hw λw5 hw5 _ hf5=>hkk _ _ ⟨b,rfl,by omega,hw5,hf5.heap (hf.heap hR id) (by rintro rfl;have:=aj hR;omega),Fmf hf2 (Fm.own hf hf5 (by rintro y rfl;exact hb))⟩;refine⟨λw'=>Fm F0 w2 w',Fm.drew _ _,?_⟩;simp only[RU,fL,show vH .u8 1 2=0 from rfl,show((0:Int) != 0)=false from rfl,e2,e3];refine⟨(o1 _).mono ?_,ae ?_,trivial⟩
   ·rintro _ _ ⟨rfl,rfl⟩;refine⟨Fm.drew _ _,(o2 _).mono ?_,ae ?_,trivial⟩
    ·rintro _ _ ⟨rfl,rfl⟩;refine⟨Fm.drew _ _,_,λw' h=>bst (tuC ⟨ofN ((s.drop 1).take 2),ofN ((s.drop 3).take 2),[],[]⟩) ⟨rfl,rfl⟩,ae ?_⟩;rintro b w4 rfl hs4 hw4 hf4;exact⟨Fmf (Fm.drew _ _) hf4,S _ _ (Fmf (Fm.drew _ _) hf4) (Fm.drew F0 w2).size hw4⟩
    ·rintro b w4 rfl hs4 hw4 hf4;refine⟨Fmf (Fm.drew _ _) hf4,(o2 _).mono ?_⟩;rintro _ _ ⟨rfl,rfl⟩;exact⟨Fmf (Fm.drew _ _) hf4,bst (tuC ⟨ofN ((s.drop 1).take 2),ofN ((s.drop 3).take 2),[],[]⟩) ⟨rfl,S _ _ (Fmf (Fm.drew _ _) hf4) (Fm.drew F0 w2).size hw4⟩⟩
   ·rintro b w4 rfl hs4 hw4 hf4;refine⟨Fmf (Fm.drew _ _) hf4,(o1 _).mono ?_⟩;rintro _ _ ⟨rfl,rfl⟩;refine⟨Fmf (Fm.drew _ _) hf4,(o2 _).mono ?_⟩;rintro _ _ ⟨rfl,rfl⟩;exact⟨Fmf (Fm.drew _ _) hf4,bst (tuC ⟨ofN ((s.drop 1).take 2),ofN ((s.drop 3).take 2),[],[]⟩) ⟨rfl,S _ _ (Fmf (Fm.drew _ _) hf4) (Fm.drew F0 w2).size hw4⟩⟩
end
open M (Ent entOk sA fh cmpB vu eP)
def Fi:Go.Shelf.Ren:=⟨λ|106=>406|213=>429|265=>445|n=>n,λn=>n,λn=>n⟩
theorem CH:Lays.n106 prog Fi:=⟨by kernel_rfl,func406.trans (congrArg some (by kernel_rfl)),func429.trans (congrArg some (by kernel_rfl)),func445.trans (congrArg some (by kernel_rfl)),underlying3,isAgg3,sizeOf3,zeroValue3,underlying9,isAgg9,sizeOf9,zeroValue9⟩
abbrev entC(e:Ent):Array Value:=#[stv e.key,iv e.page,iv e.slot]
section
variable{w:World}
theorem wI:∀a b:Bs,Lib.compareBytes a b=cmpB a b
 | [],[]=>rfl
 | [],_::_=>rfl
 | _::_,[]=>rfl
 | x::a,y::b=>by rw[Lib.compareBytes,cmpB,<- wI a b];simp only[UInt8.lt_iff_toNat_lt,cond_eq_ite,decide_eq_true_eq]
theorem yG(a b:Bs):Cl prog 406 [stv a,stv b] w λv w'=>v=iv (cmpB a b)/\w'=w:=fa (Any.strings_Compare CH (str a) (str b) w) (by rintro e w' ⟨rfl,rfl⟩;exact⟨_,rfl,by rw[<- wI];rfl,rfl⟩)
theorem kB(a b:Int):Cl prog 198 [iv a,iv b] w λv w'=>v=iv (vu a b)/\w'=w:=by
 refine cU2 func198 ?_;refine cU1 func280 ?_;simp only[RU,show(a != a)=false by simp];refine cU1 func280 ?_;simp only[RU,show(b != b)=false by simp];unfold vu;by_cases h1:a<b
 ·simp only[RU,decide_eq_true h1];exact⟨rfl,trivial⟩
 ·by_cases h2:b<a
  ·simp only[RU,decide_eq_false h1,decide_eq_true h2];exact⟨rfl,trivial⟩
  ·simp only[RU,decide_eq_false h1,decide_eq_false h2];exact⟨rfl,trivial⟩
theorem eL(n a b:Int):Cl prog 403 [iv n,iv a,iv b] w λv w'=>v=.bool (decide (a<=n)&&decide (n<=b))/\w'=w:=by refine cU3 func403 ?_;cases h:decide (a<=n)<;>simp only[RU,h]<;>exact⟨rfl,trivial⟩
theorem fP{e:Ent}(h:entOk e=true):Cl prog 350 [.agg (entC e)] w λv w'=>v=.bool true/\Fm F0 w w':=by unfold entOk at h;rw[decide_eq_true_eq] at h;obtain⟨h1,h2,h3,h4,h5,h6⟩:=h;refine cU1 func350 ?_;refine ae ?_;rintro b w1 rfl hs hw hf;have c:=λo=>ab (off:=o) hw;simp only[RU,c];refine(eL _ _ _).mono ?_;rintro _ _ ⟨rfl,rfl⟩;simp only[RU,decide_eq_true (show(1:Int)<=(e.key.length:Int) by omega),decide_eq_true (show(e.key.length:Int)<=24 by omega),c,Bool.and_self];refine(eL _ _ _).mono ?_;rintro _ _ ⟨rfl,rfl⟩;simp only[RU,decide_eq_true h3,decide_eq_true h4,c,Bool.and_self];refine(eL _ _ _).mono ?_;rintro _ _ ⟨rfl,rfl⟩;simp only[RU,decide_eq_true h5,decide_eq_true h6,Bool.and_self];exact hf
theorem zX{l:List Int}{v:Value}(hl:CellsAt w v l.length 1 (l.map iv)):Cl prog 405 [v] w λr w'=>r=iv ((l.find? λx=>decide (x≠0)).getD 0)/\w'=w:=by
 have hlt:=hl.lt;unfold maxLen at hlt;refine cU1 func405 ?_ (V [(3,[8])]);simp only[RU,hl.lenV];refine⟨λvs w2=>∃k:Nat,vs=[iv k]/\k<=l.length/\(l.find? λx=>decide (x≠0))=((l.drop k).find? λx=>decide (x≠0))/\w2=w,λvs _=>(l.length - nth vs 0).toNat,⟨0,rfl,by omega,rfl,rfl⟩,?_⟩;rintro w2 ik ⟨k,hvs,hk,hall,rfl⟩;cases hvs;by_cases hl2:k<l.length
 ·have hx:l[k]?=some l[k]:=List.getElem?_eq_getElem hl2;rw[List.drop_eq_getElem_cons hl2,List.find?_cons] at hall;generalize l[k]=x at hx hall;obtain⟨ad,hix,_,hc⟩:=hl.j4 (i:=k) (x:=iv x) (by rw[List.getElem?_map,hx];rfl) .i64;simp only[RU,decide_eq_true (show(k:Int)<(l.length:Int) by omega),hix,hc,aG];by_cases h0:x=0
  ·rw[decide_eq_false (show ¬x≠0 from λh=>h h0)] at hall;simp only[RU,decide_eq_true h0,show IntKind.i64.wrap ((k:Int)+1)=((k+1:Nat):Int) by rw[af]<;>omega];exact⟨⟨k+1,rfl,by omega,hall,trivial⟩,by simp only[ba];omega⟩
  ·rw[decide_eq_true h0] at hall;simp only[RU,decide_eq_false h0];rw[hall];exact⟨rfl,trivial⟩
 ·rw[List.drop_of_length_le (by omega)] at hall;simp only[RU,decide_eq_false (show ¬(k:Int)<(l.length:Int) by omega)];rw[hall];exact⟨rfl,trivial⟩
theorem gV(a b:Ent):Cl prog 353 [.agg (entC a),.agg (entC b)] w λv w'=>v=iv (eP a b)/\Fm F0 w w':=by
 refine cU2 func353 ?_;refine ae ?_;rintro g1 w1 rfl hs1 hw1 hf1;refine ae ?_;rintro g2 w2 rfl hs2 hw2 hf2
 replace hw1:=hf2.heap hw1 id
 have c1:=λ(w':World) (h:Fm F0 w2 w') o=>ab (off:=o) (h.heap hw1 id);have c2:=λ(w':World) (h:Fm F0 w2 w') o=>ab (off:=o) (h.heap hw2 id);refine⟨λw'=>Fm F0 w2 w',Fm.drew _ _,?_⟩;simp only[RU,c1 _ (Fm.drew _ _),c2 _ (Fm.drew _ _)];refine rdP (u:=iv a.page) (λw' h=>c1 w' h 1) (rdP (u:=iv b.page) (λw' h=>c2 w' h 1) (rdP (u:=iv a.slot) (λw' h=>c1 w' h 2) (rdP (u:=iv b.slot) (λw' h=>c2 w' h 2) ?_)));refine(yG _ _).mono ?_;rintro _ _ ⟨rfl,rfl⟩;refine⟨Fm.drew _ _,(kB _ _).mono ?_⟩;rintro _ _ ⟨rfl,rfl⟩;refine⟨Fm.drew _ _,(kB _ _).mono ?_⟩;rintro _ _ ⟨rfl,rfl⟩;have hf:=Fmf (Fmf hf1 hf2) (Fm.drew F0 w2);generalize w2.drew=w3 at hf;refine bsl 3 #[iv (cmpB a.key b.key),iv (vu a.page b.page),iv (vu a.slot b.slot)] 3 ?_;refine(zX (l:=[cmpB a.key b.key,vu a.page b.page,vu a.slot b.slot]) (ig _ (by simp) w3 3)).mono ?_;rintro _ _ ⟨rfl,rfl⟩;refine⟨?_,Fmf hf (Fm.alloc F0 w3 _)⟩;unfold eP;simp only[List.find?_cons,List.find?_nil];cases decide (cmpB a.key b.key≠0) with
 | true=>rfl
 | false=>
  cases decide (vu a.page b.page≠0) with
  | true=>rfl
  | false=>
   cases h:decide (vu a.slot b.slot≠0) with
   | true=>rfl
   | false=>simp at h;simp[h]
theorem kj{e:Ent}(h:entOk e=true):Cl prog 355 [.agg (entC e),.slice none 0 0] w λv w'=>v=stv (sA e)/\Fm F0 w w':=by unfold entOk at h;rw[decide_eq_true_eq] at h;obtain⟨h1,h2,h3,h4,h5,h6⟩:=h;refine cU2 func355 ?_;refine ae ?_;rintro b w1 rfl hs hw hf;refine WS.new (Fm.refl _ _) ?_;intro w2 r hW hf2;have c:=λo=>ab (off:=o) (hW.fm.heap hw id);simp only[RU,c];refine hW.text (by omega) (by simp;omega) ?_;intro u w3 hW;have c:=λo=>ab (off:=o) (hW.fm.heap hw id);have hl:=aK (n:=e.key.length) (by omega);simp only[RU,c];refine hW.lit (ns:=[e.page,e.slot]) (ou _ _ _) rfl (by intro n hn;simp at hn;omega) (by simp[iM];omega) ?_;intro u w4 hW;have e1:=aK (n:=e.page) (by omega);have e2:=aK (n:=e.slot) (by omega);refine hW.num (ns:=[]) (CellsAt.aT (World.ownsRow_nil w4 0 3 1)) (by simp) (by simp) (by simp[iM,cz];omega) ?_;intro u w5 hW;refine(dq hW.wr.1).mono ?_;rintro _ _ ⟨rfl,rfl⟩;exact⟨by simp[sA,cz],Fmf hf hW.fm⟩
theorem wY{e:Ent}(h:entOk e=true):Cl prog 295 [.agg (entC e)] w λv w'=>v=.tuple #[stv (sA e),iv 0]/\Fm F0 w w':=by refine cU1 func295 ?_;refine ae ?_;rintro b w1 rfl hs hw hf;simp only[RU,aa (n:=3) hw rfl];refine(fP h).mono ?_;rintro _ w2 ⟨rfl,hf2⟩;simp only[RU,aa (n:=3) (hf2.heap hw id) rfl];refine(kj h).mono ?_;rintro _ w3 ⟨rfl,hf3⟩;exact⟨rfl,Fmf hf (Fmf hf2 hf3)⟩
theorem kl{s:Bs}(hs:s.length<=1000000){e:Ent}(h:fh s=some e):Cl prog 371 [stv s] w λv w'=>v=.tuple #[.agg (entC e),iv 0]/\Fm F0 w w':=by
 unfold fh at h;simp only at h;cases hc:decide (vy (rn 65535 (rn 65535 (rt 24 (s,0)).2).2).2.1 (rn 65535 (rn 65535 (rt 24 (s,0)).2).2).2.2=0)&&entOk ⟨(rt 24 (s,0)).1,(rn 65535 (rt 24 (s,0)).2).1,(rn 65535 (rn 65535 (rt 24 (s,0)).2).2).1⟩ with
 | false=>rw[hc] at h;cases h
 | true=>
 rw[hc] at h;cases h;rw[Bool.and_eq_true,decide_eq_true_eq] at hc;obtain⟨h1,h2⟩:=hc;refine cU1 func371 ?_;refine ae ?_;rintro b w1 rfl hs1 hw hf;refine(fM _ _).mono ?_;rintro _ w2 ⟨r,rfl,hr,hR,hf2⟩;have hs2:=(pQ (most:=24) (by decide) (s,0)).2;have hs3:=(bS 65535 (rt 24 (s,0)).2).2.2;refine(fX (st:=(s,0)) hR hs (by decide)).mono ?_;rintro _ w3 ⟨rfl,hR,hf3⟩;refine(dA hR (Nat.le_trans hs2 hs) (by decide)).mono ?_;rintro _ w4 ⟨rfl,hR,hf4⟩;refine(dA hR (Nat.le_trans hs3 (Nat.le_trans hs2 hs)) (by decide)).mono ?_;rintro _ w5 ⟨rfl,hR,hf5⟩;have hf5:=Fm.own (Fm.own (Fm.own hf2 hf3 (by rintro y rfl;exact hr)) hf4 (by rintro y rfl;exact hr)) hf5 (by rintro y rfl;exact hr);have hr5:=aj hR;refine bst (entC ⟨(rt 24 (s,0)).1,(rn 65535 (rt 24 (s,0)).2).1,(rn 65535 (rn 65535 (rt 24 (s,0)).2).2).1⟩) (aE λw6 hs6 hw6 hf6=>?_);refine(gP (hf6.heap hR id)).mono ?_;rintro _ _ ⟨rfl,rfl⟩;simp only[RU,h1,show((0:Int) != 0)=false from rfl,aa (n:=3) hw6 rfl];refine(fP h2).mono ?_;rintro _ w7 ⟨rfl,hf7⟩;simp only[RU,aa (n:=3) (hf7.heap hw6 id) rfl];have hf7:=Fmf hf5 (Fmf hf6 hf7);refine ao (hf7.heap hw id) λw8 hw8 hs8 hf8=>?_;simp only[RU,aa (n:=3) hw8 rfl];exact Fm.own (Fmf hf hf7) hf8 (by rintro y rfl;exact Nat.le_refl _)
end
structure PgN (w : World) (n0 : Nat) (v : Value) (p : Pg) : Prop where
 one : v.oneCell' = true
 it : CellsAt w v p.items.length 1 (p.items.map stv)
 small : ∀ x ∈ p.items, x.length ≤ 140737488355328
 ins : In p.lsn ∧ In p.kind ∧ In p.level ∧ In p.right ∧ p.high.length ≤ 140737488355328 ∧ p.items.length * 16 ≤ 140737488351232
 fr : p.items ≠ [] → ∀ g, blockOf v = some g → n0 ≤ g
section
variable{w w':World}{n0:Nat}{v u:Value}{p:Pg}
theorem PgN.as(h:PgN w n0 v p):PgAs w (pcs p v) p:=⟨⟨v,rfl,h.one,h.it⟩,h.small,by have:=h.ins;refine⟨this.1,this.2.1,this.2.2.1,this.2.2.2.1,this.2.2.2.2.1,by omega⟩⟩
theorem PgN.dO{S:Nat->Prop}(h:PgN w n0 v p)(hf:Fm S w w')(hS:∀y,S y->y<n0):PgN w' n0 v p:=⟨h.one,h.it.gE hf (λhx g hg e=>by have:=h.fr (by simpa using hx) g hg;have:=hS g e;omega),h.small,h.ins,h.fr⟩
theorem PgN.o6{b:Nat}(h:PgN w n0 v p)(hf:Fm (·=b) w w')(hb:p.items≠[]->blockOf v≠some b):PgN w' n0 v p:=⟨h.one,h.it.gE hf (λhx g hg e=>hb (by simpa using hx) (by rw[hg,e])),h.small,h.ins,h.fr⟩
theorem PgN.keep(h:PgN w n0 v p)(hf:Fm F0 w w'):PgN w' n0 v p:=h.dO hf (λy e=>e.elim)
theorem PgN.base{n1:Nat}(h:PgN w n0 v p)(hn:n1<=n0):PgN w n1 v p:=⟨h.one,h.it,h.small,h.ins,λa g b=>Nat.le_trans hn (h.fr a g b)⟩
theorem PgN.y8(h:PgOw w n0 (pcs p v) p)(hl:p.items.length<=1000):PgN w n0 v p:=by
 obtain⟨u,e,ho⟩:=h.ex;have:u=v:=by simp only[pcs] at e;injection e with e;simpa using e.symm
 subst this;have hi:=h.ins;refine⟨aB ho,CellsAt.aT ho,h.small,⟨hi.1,hi.2.1,hi.2.2.1,hi.2.2.2.1,hi.2.2.2.2.1,by omega⟩,λ_ g hg=>?_⟩;rcases ho.2 with⟨rfl,_⟩|⟨g',c,cur,rfl,hb,_⟩
 ·cases hg
 ·cases hg;exact hb
def wi(p:Pg)(l:List Bs):Pg:={ p with items:=l }
theorem Ag{l:List Bs}(h:eW (wi p l)=true):l.length<=255:=by unfold eW at h;simp only[Bool.and_eq_true,decide_eq_true_eq] at h;exact h.1
theorem lM{v:Value}(p:Pg)(hv:v.oneCell'=true):(pcs p v).toList.all Value.oneCell'=true:=by simp only[pcs,List.all_cons,List.all_nil,hv];rfl
theorem mD{l:List Bs}(hu:PgN w n0 u (wi p l))(hf:eW (wi p l)=true):Cl prog 415 [.agg (pcs p v),u] w λr w'=>r=.tuple #[.agg (pcs (wi p l) u),iv 0]/\Fm F0 w w':=by
 refine cU2 func415 ?_;refine ae ?_;rintro b1 w1 rfl hs1 hw1 hf1;refine ae ?_;rintro b2 w2 rfl hs2 hw2 hf2;simp only[RU];refine au (hf2.heap hw1 id) (j:=5) (show 5<6 by decide) hu.one λw3 hw3 hs3 hf3=>?_
 replace hw3:w3.heap[w.heap.size]?=some (.cells (pcs (wi p l) u) 68):=hw3
 have hF3:=Fm.own (Fmf hf1 hf2) hf3 (by rintro y rfl;exact Nat.le_refl _);simp only[RU,aa (n:=6) hw3 rfl];refine(oT (hu.keep hF3).as).mono ?_;rintro _ w4 ⟨rfl,hf4⟩;rw[hf];simp only[RU,aa (n:=6) (hf4.heap hw3 id) rfl];refine ao (hf4.heap (hf3.heap hw2 (show ¬_=_ by omega)) id) (λw5 hw5 hs5 hf5=>?_) rfl rfl (lM _ hu.one);simp only[RU,aa (n:=6) hw5 rfl];exact Fm.own (Fmf hF3 hf4) hf5 (by rintro y rfl;omega)
theorem kX(h:PgN w n0 v p){j:Nat}(hj:j<=p.items.length){x:Bs}(hx:x.length<=1000000)(hf:eW (wi p (M.putIt p.items j x))=true):
  Cl prog 364 [.agg (pcs p v),iv j,stv x] w λr w'=>∃u,r=.tuple #[.agg (pcs (wi p (M.putIt p.items j x)) u),iv 0]/\PgN w' w.heap.size u (wi p (M.putIt p.items j x))/\Fm F0 w w':=by
 have hil:M.putIt p.items j x=kC p.items j x:=rfl;have hlen:=Ag hf;have hl2:=hU x hj;have hi:=h.ins;refine cU3 func364 ?_;refine ae ?_;rintro b1 w1 rfl hs1 hw1 hf1;refine ae ?_;rintro b2 w2 rfl hs2 hw2 hf2;have hF2:=Fmf hf1 hf2;have hw1:=hf2.heap hw1 id;have hlt:=aj hw1;have c:=λ(w':World) (hf:Fm (λy=>w2.heap.size<=y) w2 w') o=>ab (off:=o) (hf.heap hw1 (by omega));have cL:=λ(w':World) (hf:Fm (λy=>w2.heap.size<=y) w2 w')=>aa (n:=6) (hf.heap hw1 (by omega)) rfl;have up:∀{w'},Fm F0 w2 w'->Fm (λy=>w2.heap.size<=y) w2 w':=λhf=>hf.mono iE;have own:∀{w'},Fm (λy=>w2.heap.size<=y) w2 w'->Fm F0 w2 w':=λhf=>Fm.own (Fm.refl F0 w2) hf (λy e=>e);have hi2:In p.lsn/\In p.kind/\In p.level/\In p.right/\p.high.length<=140737488355328/\(M.putIt p.items j x).length*16<=140737488351232:=⟨hi.1,hi.2.1,hi.2.2.1,hi.2.2.2.1,hi.2.2.2.2.1,by omega⟩;have hsm:∀y∈M.putIt p.items j x,y.length<=140737488355328:=by
  intro y hy;simp only[M.putIt,List.mem_append,List.mem_singleton] at hy;rcases hy with(hy|rfl)|hy
  ·exact h.small y (List.mem_of_mem_take hy)
  ·omega
  ·exact h.small y (List.mem_of_mem_drop hy)
 have fin:∀(w6:World) (r:Value) (a:Option Addr) (cp:Nat),r=.slice a (p.items.length+1) cp->CellsAt w6 r (p.items.length+1) 1 ((kC p.items j x).map stv)->(∀g,blockOf r=some g->w2.heap.size<=g)->Fm (λy=>w2.heap.size<=y) w2 w6 ->
   Cl prog 415 [.agg (pcs p v),r] w6 λv w_3=>Pu (bj v 0) λv_1=>Pu (bj v 1) λv_2=>St 6 w_3 (pv w1.heap.size) v_1 λv w_4=>Pu (aM w_4 ⟨w1.heap.size,0,none⟩ 6) λu=>∃u_1,Value.tuple #[u,v_2]=.tuple #[.agg (pcs (wi p (M.putIt p.items j x)) u_1),iv 0]/\PgN w_4 w.heap.size u_1 (wi p (M.putIt p.items j x))/\Fm F0 w w_4:=by
  intro w6 r a cp hr hcell hbl hf6;have hN:PgN w6 w2.heap.size r (wi p (M.putIt p.items j x)):=⟨by rw[hr];rfl,by rw[<- hl2,<- hil] at hcell;exact hcell,hsm,hi2,λ_=>hbl⟩;refine(mD hN hf).mono ?_;rintro _ w7 ⟨rfl,hf7⟩;have hf67:=hf6.trans hf7 (U:=λy=>w2.heap.size<=y) iT iE;simp only[RU];refine ao (hf67.heap hw2 (by omega)) (λw8 hw8 hs8 hf8=>?_) rfl rfl (lM _ hN.one);simp only[RU,aa (n:=6) hw8 rfl];refine⟨r,rfl,?_,Fm.own (Fmf hF2 (own hf67)) hf8 (by rintro y rfl;omega)⟩;exact((hN.keep hf7).dO hf8 (by rintro y rfl;omega)).base (by omega)
 simp only[RU,decide_eq_false (show ¬(j:Int)<0 by omega),PB.c5 hw1,h.it.lenV,decide_eq_false (show ¬(p.items.length:Int)<(j:Int) by omega)];refine⟨λw'=>Fm (λy=>w2.heap.size<=y) w2 w',up (Fm.drew _ _),?_⟩;refine rdP cL (rdP (u:=v) (λw' hf=>PB.c5 (hf.heap hw1 (by omega))) ?_);have hc:CellsAt w2.drew v p.items.length 1 (p.items.map stv):=(h.it.keep hF2 iT).keep (Fm.drew F0 w2) iT;have z2:=(Fm.drew F0 w2).size;refine⟨(dj hc (by omega)).mono ?_,bsl 1 #[stv x] 9 ?_,trivial⟩
 ·rintro lv w4 ⟨ho4,hf4⟩;have z3:=hf4.size;have hf4:=Fmf (Fm.drew F0 w2) hf4;refine⟨up hf4,bsl 1 #[stv x] 9 ?_⟩;have hf5:=Fm.alloc F0 w4 (.cells #[stv x] 9);have hn5:=aA w4 (.cells #[stv x] 9);have ho5:=ah ho4 hf5 (λ_ _ _ _ e=>e);have hlt4:=aO ho4;generalize w4.alloc (.cells #[stv x] 9)=w5 at hf5 hn5 ho5;have z4:=hf4.size;have z5:=hf5.size;refine⟨up (Fmf hf4 hf5),(kD ho5 hj hn5 (λe=>by have:=hlt4 _ e;omega) (by omega) (by omega)).mono ?_⟩;rintro r w6 ⟨a,cp,hr,hcell,hbl,hf6⟩;have hf6:=(Fmf hf4 hf5).trans hf6 (U:=λy=>w2.heap.size<=y) iE (λy _ e=>by omega);exact⟨hf6,fin w6 r a cp hr hcell (λg hg=>by have:=hbl g hg;omega) hf6⟩
 ·have hf4:=Fm.alloc F0 w2.drew (.cells #[stv x] 9);have hn4:=aA w2.drew (.cells #[stv x] 9);have hs4:=aF w2.drew (.cells #[stv x] 9);generalize w2.drew.alloc (.cells #[stv x] 9)=w4 at hf4 hn4 hs4;have hf4':=Fmf (Fm.drew F0 w2) hf4;refine⟨up hf4',(dj (hc.keep hf4 iT) (by omega)).mono ?_⟩;rintro lv w5 ⟨ho5,hf5⟩;have z5:=hf5.size;refine⟨up (Fmf hf4' hf5),(kD ho5 hj (hf5.heap hn4 id) (λe=>by have:=aO ho5 _ e;omega) (by omega) (by omega)).mono ?_⟩;rintro r w6 ⟨a,cp,hr,hcell,hbl,hf6⟩;have hf6:=(Fmf hf4' hf5).trans hf6 (U:=λy=>w2.heap.size<=y) iE (λy _ e=>by omega);exact⟨hf6,fin w6 r a cp hr hcell (λg hg=>by have:=hbl g hg;omega) hf6⟩
theorem ja(h:PgN w n0 v p){j:Nat}(hj:j<p.items.length){x:Bs}(hx:x.length<=1000000)(hf:eW (wi p (p.items.set j x))=true):
  Cl prog 365 [.agg (pcs p v),iv j,stv x] w λr w'=>∃u,r=.tuple #[.agg (pcs (wi p (p.items.set j x)) u),iv 0]/\PgN w' w.heap.size u (wi p (p.items.set j x))/\Fm F0 w w':=by
 have hi:=h.ins;refine cU3 func365 ?_;refine ae ?_;rintro b1 w1 rfl hs1 hw1 hf1;refine ae ?_;rintro b2 w2 rfl hs2 hw2 hf2;have hF2:=Fmf hf1 hf2;have hw1:=hf2.heap hw1 id;simp only[RU,decide_eq_false (show ¬(j:Int)<0 by omega),PB.c5 hw1,h.it.lenV,decide_eq_false (show ¬(p.items.length:Int)<=(j:Int) by omega)];refine(dj (h.it.keep hF2 iT) (by omega)).mono ?_;rintro lv w3 ⟨ho3,hf3⟩;obtain⟨ad,hix,had,hst⟩:=qZ ho3 hj;simp only[RU,hix];refine hst rfl λw4 ho4 hs4 hf4=>?_;have hof:=aO ho3;have hf4:=Fm.own hf3 hf4 (λy hy=>(hof y hy).1);simp only[RU,PB.all (hf4.heap hw1 id)];have hN:PgN w4 w.heap.size lv (wi p (p.items.set j x)):=by
  refine⟨aB ho4,?_,?_,?_,?_⟩
  ·have:=CellsAt.aT ho4;rw[<- List.map_set] at this;simpa[wi] using this
  ·intro y hy;rcases List.mem_or_eq_of_mem_set hy with hy|rfl
   ·exact h.small y hy
   ·omega
  ·have:(p.items.set j x).length=p.items.length:=List.length_set;exact⟨hi.1,hi.2.1,hi.2.2.1,hi.2.2.2.1,hi.2.2.2.2.1,by show(p.items.set j x).length*16<=_;omega⟩
  ·intro _ g hg;rcases ho4.2 with⟨rfl,_⟩|⟨g',c,cur,rfl,hb,_⟩
   ·cases hg
   ·cases hg;show _<=g';omega
 refine(mD hN hf).mono ?_;rintro _ w5 ⟨rfl,hf5⟩;simp only[RU];refine ao ((Fmf hf4 hf5).heap hw2 id) (λw6 hw6 hs6 hf6=>?_) rfl rfl (lM _ hN.one);simp only[RU,aa (n:=6) hw6 rfl];refine⟨lv,rfl,(hN.keep hf5).o6 hf6 ?_,Fm.own (Fmf hF2 (Fmf hf4 hf5)) hf6 (by rintro y rfl;omega)⟩;rcases ho3.2 with⟨rfl,_⟩|⟨g',c,cur,rfl,hb,_⟩
 ·intro _ e;cases e
 ·intro _ e;have e:g'=w1.heap.size:=Option.some.inj e;omega
theorem uE(h:PgN w n0 v p)(hl:p.items.length<255)(hs:bt p<=510):Cl prog 314 [.agg (pcs p v)] w λr w'=>r=iv (510 - bt p:Nat)/\Fm F0 w w':=by refine cU1 func314 ?_;refine ae ?_;rintro b1 w1 rfl hs1 hw1 hf1;simp only[RU,PB.all hw1];refine(ln (h.keep hf1).as).mono ?_;rintro _ w2 ⟨rfl,hf2⟩;simp only[RU,show IntKind.i64.wrap (bt p:Int)=bt p by rw[af];omega,show IntKind.i64.wrap (512 - (bt p:Int))=512 - bt p by rw[af];omega,show IntKind.i64.wrap (512 - (bt p:Int) - 2)=((510 - bt p:Nat):Int) by rw[af]<;>omega,decide_eq_false (show ¬((510 - bt p:Nat):Int)<0 by omega),PB.c5 (hf2.heap hw1 id),h.it.lenV,decide_eq_false (show ¬(255:Int)<=(p.items.length:Int) by omega)];exact Fmf hf1 hf2
end
variable{k:KV}{w:World}{a b c d e f g i:Value}
theorem c349 (h:
New (Value.cells a) 68 w λp1 w2=>
 New #[nl,nl,es,(iv 0),(iv 0),(.bool false)] 416 w2 λt3 w4=>
 New #[nl,nl,es,(iv 0),(iv 0),(.bool false)] 416 w4 λo5 w6=>
 LdN 6 w6 p1 λt7 w8=>
 Cl prog 66 [t7] w8 λt9 w10=>
 X2 t9 λt11 t12=>
 Pu (bI .neq t12 (iv 0)) λt13=>
 GdG (isB false t13) (λkk=>LA 1 p1 w10 λt15 w16=>Pu (bI .neq t15 (iv 3)) λt17=>kk t17 w16) w10 λ_ t18 w19=>
 Pu (aD t13 (.bool true) t18) λt20=>
 GdG (isB false t20) (λkk=>LA 3 p1 w19 λt22 w23=>Cl prog 403 [t22,(iv 0),(iv 65535)] w23 λt24 w25=>Pu (unV .not t24) λt26=>kk t26 w25) w19 λ_ t27 w28=>
 Pq t20 (.bool true) t27
 (LdN 6 w28 o5 λt30 w31=>
 St 6 w31 t3 t30 λu32 w33=>
 ch (bO prog (λj=>bif Nat.beq j 2 then t3 else bif Nat.beq j 3 then(.bool false) else undef) w33 [(ResultVar.cell 2 416),(ResultVar.tmp 3)]) w33 k)
 (Jn (λv54 w53=>∀g55:Fr,v54=[] /\
 (LA 5 p1 w53 λt57 w58=>
 Pu (lenV t57) λt59=>
 ∃(I60:LP) (m61:LN),I60 [(iv 0)] w58 /\
 ∀(g148:Fr) (w147:World),∀t70:Value,I60 [t70] w147 ->
 (BI .lss t70 t59
 (LI 1 t57 t70 w147 λt151 w152=>
 New #[es,(iv 0),(iv 0)] 221 w152 λx153 w154=>
 Jn (λv187 w186=>∀g188:Fr,∃e157:Value,v187=[e157] /\
 (Pu (bI .neq e157 (iv 0)) λt189=>
 Gd (isB false t189) (λkk=>kk t70 w186.drew) w186.drew λt190 w191=>
 Gd (isB false t189) (λkk=>Pu (bI .gtr t190 (iv 0)) λvv=>kk vv w191) w191 λt192 w193=>
 Gd (isB false t189) (λkk=>kk t192 w193) w193 λt194 w195=>
 Gd (isB true t194) (λkk=>Pu (faV 0 o5) λvv=>kk vv w195) w195 λt196 w197=>
 Gd (isB true t194) (λkk=>Ld w197 t196 kk) w197 λt198 w199=>
 w199=w197 /\
 Gd (isB true t194) (λkk=>kk t70 w197) w197 λt200 w201=>
 Gd (isB true t194) (λkk=>Pu (bI .sub t200 (iv 1)) λvv=>kk vv w201) w201 λt202 w203=>
 Gd (isB true t194) (λkk=>Pu (ixV 3 t198 t202) λvv=>kk vv w203) w203 λt204 w205=>
 Gd (isB true t194) (λkk=>LdN 3 w205 t204 kk) w205 λt206 w207=>
 w207=w205 /\
 Gd (isB true t194) (λkk=>LdN 3 w205 x153 kk) w205 λt208 w209=>
 w209=w205 /\
 Gd (isB true t194) (λkk=>Cl prog 353 [t206,t208] w205 kk) w205 λt210 w211=>
 Gd (isB true t194) (λkk=>Pu (bI .geq t210 (iv 0)) λvv=>kk vv w211) w211 λt212 w213=>
 Gd (isB false t189) (λkk=>Pu (aD t194 t212 (.bool false)) λvv=>kk vv w213) w213 λt214 w215=>
 Pq t189 (.bool true) t214
 (LdN 6 w215 o5 λt217 w218=>
 St 6 w218 t3 t217 λu219 w220=>
 ch (bO prog (λj=>bif Nat.beq j 2 then t3 else bif Nat.beq j 3 then(.bool false) else undef) w220 [(ResultVar.cell 2 416),(ResultVar.tmp 3)]) w220 k)
 (LdN 3 w215 x153 λt221 w222=>
 Pu (faV 2 o5) λt223=>
 LdN 3 w222 t223 λt224 w225=>
 Cl prog 353 [t221,t224] w225 λt226 w227=>
 LA 5 o5 w227 λt229 w230=>
 GdG (isB true t229) (λkk=>Pu (bI .gtr t226 (iv 0)) λt231=>kk t231 w230) w230 λ_ t232 w233=>
 GdG (isB false t232) (λkk=>Pu (bI .eql t226 (iv 0)) λt234=>kk t234 w233) w233 λ_ t235 w236=>
 GdG (isB true t235) (λkk=>LA 2 p1 w236 λt238 w239=>Pu (bI .gtr t238 (iv 0)) λt240=>kk t240 w239) w236 λ_ t241 w242=>
 Gd (isB false t232) (λkk=>Pu (aD t235 t241 (.bool false)) λvv=>kk vv w242) w242 λt243 w244=>
 Gd (isB true t229) (λkk=>Pu (aD t232 (.bool true) t243) λvv=>kk vv w244) w244 λt245 w246=>
 Pq t229 t245 (.bool false)
 (LdN 6 w246 o5 λt248 w249=>
 St 6 w249 t3 t248 λu250 w251=>
 ch (bO prog (λj=>bif Nat.beq j 2 then t3 else bif Nat.beq j 3 then(.bool false) else undef) w251 [(ResultVar.cell 2 416),(ResultVar.tmp 3)]) w251 k)
 (LA 0 o5 w246 λt253 w254=>
 LdN 3 w254 x153 λt255 w256=>
 RunS prog (Instr.buildSlice 76 1 #[(0,t255)]) w256 λt257 w258=>
 RunS prog (Builtin.append_ #[76,76] 76 #[t253,t257]) w258 λt259 w260=>
 SA 0 1 o5 w260 t259 λu262 w263=>
 Pu (bI .add t70 (iv 1)) λt264=>
 I60 [t264] w263/\m61 [t264] w263<m61 [t70] w147))))
 (λj155=>
 LA 2 p1 w154 λt266 w267=>
 BI .eql t266 (iv 0)
 (Cl prog 371 [t151] w267 λt269 w270=>
 X2 t269 λt271 t272=>
 St 3 w270 x153 t271 λu273 w274=>
 j155 [t272] w274)
 (Cl prog 369 [t151] w267 λt275 w276=>
 X3 t275 λt277 t278 t279=>
 St 3 w276 x153 t277 λu280 w281=>
 LA 1 o5 w281 λt283 w284=>
 RunS prog (Instr.buildSlice 25 1 #[(0,t278)]) w284 λt285 w286=>
 RunS prog (Builtin.append_ #[25,25] 25 #[t283,t285]) w286 λt287 w288=>
 SA 1 1 o5 w288 t287 λu290 w291=>
 ∃C292:World->Prop,C292 w291.drew /\
 (∃t293,(∀w294,C292 w294->LdN 3 w294 x153 λt295 w296=>
 t295=t293/\w296=w294) /\
 (Pu (bI .eql t70 (iv 0)) λt297=>
 Cl prog 404 [] w291.drew λt298 w299=>
 C292 w299 /\
 (RunS prog (do eqGuard .eql 221 (Operand.tmp 77) (Operand.tmp 78) t293 t298;binOp .eql 221 t293 t298) w299 λt300 w301=>
 w301=w299 /\
 Pu (ax TypeDesc.bool .neq t300 t297) λt302=>
 IfB t302
 (LdN 6 w299 o5 λt303 w304=>
 St 6 w304 t3 t303 λu305 w306=>
 ch (bO prog (λj=>bif Nat.beq j 2 then t3 else bif Nat.beq j 3 then(.bool false) else undef) w306 [(ResultVar.cell 2 416),(ResultVar.tmp 3)]) w306 k)
 (j155 [t279] w299)))))))
 (∃C307:World->Prop,C307 w147.drew /\
 (LdN 6 w147.drew o5 λt308 w309=>
 w309=w147.drew /\
 LA 2 p1 w147.drew λt311 w312=>
 w312=w147.drew /\
 Pu (bI .eql t311 (iv 0)) λt313=>
 Gd (isB false t313) (λkk=>Pu (faV 5 p1) λvv=>kk vv w147.drew) w147.drew λt314 w315=>
 ∃t316,(∀w317,C307 w317->Gd (isB false t313) (λkk=>Ld w317 t314 kk) w317 λt318 w319=>
 t318=t316/\w319=w317) /\
 (Gd (isB false t313) (λkk=>Pu (lenV t316) λvv=>kk vv w315) w315 λt320 w321=>
 Gd (isB false t313) (λkk=>Pu (bI .gtr t320 (iv 0)) λvv=>kk vv w321) w321 λt322 w323=>
 Pu (aD t313 (.bool true) t322) λt324=>
 St 6 w323 t3 t308 λu325 w326=>
 C307 w326 /\
 (ch (bO prog (λj=>bif Nat.beq j 2 then t3 else bif Nat.beq j 3 then t324 else undef) w326 [(ResultVar.cell 2 416),(ResultVar.tmp 3)]) w326 k)))))))
 (λj34=>
 LA 4 p1 w28 λt328 w329=>
 Pu (ax .string .neq t328 es) λt330=>
 IfB t330
 (LA 4 p1 w329 λt332 w333=>
 Cl prog 371 [t332] w333 λt334 w335=>
 X2 t334 λt336 t337=>
 New #[es,(iv 0),(iv 0)] 221 w335 λh338 w339=>
 St 3 w339 h338 t336 λu340 w341=>
 BI .neq t337 (iv 0)
 (LdN 6 w341 o5 λt343 w344=>
 St 6 w344 t3 t343 λu345 w346=>
 ch (bO prog (λj=>bif Nat.beq j 2 then t3 else bif Nat.beq j 3 then(.bool false) else undef) w346 [(ResultVar.cell 2 416),(ResultVar.tmp 3)]) w346 k)
 (LdN 3 w341 h338 λt347 w348=>
 SA 2 3 o5 w348 t347 λu350 w351=>
 SA 5 1 o5 w351 (.bool true) λu353 w354=>
 j34 [] w354))
 (j34 [] w329)))):Cl prog 349 [a] w k:=cE func349 h (lv:=(λj=>bif Nat.beq j 11 then[52] else[])) (jn:=(λj=>bif Nat.beq j 10 then some [] else bif Nat.beq j 22 then some [12] else none))
open M (Ent entOk sA fh eP)
theorem bind_some{α β:Type}{x:Option α}{f:α->Option β}{b:β}(h:(x >>= f)=some b):∃a,x=some a/\f a=some b:=Option.bind_eq_some_iff.1 h
theorem ak{b:Bool}{u:Unit}(h:M.gd b=some u):b=true:=by cases b;cases h;rfl
theorem E76:ElemT prog 76 221 3 32:=bJ underlying76 (by kernel_rfl)
abbrev entL(e:Ent):List Value:=[stv e.key,iv e.page,iv e.slot]
abbrev opC(ve:Value):Array Value:=#[ve,.slice none 0 0,stv [],iv 0,iv 0,.bool false]
theorem oM:∀{l:List Bs} {p:Ent} {L:List Ent},M.entsGo p l=some L->L.length=l.length/\∀(i:Nat) s,l[i]?=some s->∃e,L[i]?=some e/\fh s=some e/\∀q,(p::L)[i]?=some q->eP q e<0
 | [],p,L,h=>by cases h;exact⟨rfl,by simp⟩
 | s::l,p,L,h=>by
  rw[M.entsGo] at h;obtain⟨e,h1,h⟩:=bind_some h;obtain⟨_,h2,h⟩:=bind_some h;obtain⟨r,h3,h⟩:=bind_some h;cases h;have h2:=of_decide_eq_true (ak h2);obtain⟨g1,g2⟩:=oM h3;refine⟨by simp[g1],λi t ht=>?_⟩;cases i with
  | zero=>cases ht;exact⟨e,rfl,h1,λq hq=>by cases hq;exact h2⟩
  | succ i=>exact g2 i t ht
theorem qD{l:List Bs}{L:List Ent}(h:M.ents l=some L):L.length=l.length/\∀(i:Nat) s,l[i]?=some s->∃e,L[i]?=some e/\fh s=some e/\∀j q,i=j+1->L[j]?=some q->eP q e<0:=by
 cases l with
 | nil=>cases h;exact⟨rfl,by simp⟩
 | cons s l=>
  rw[M.ents] at h;obtain⟨e,h1,h⟩:=bind_some h;obtain⟨r,h3,h⟩:=bind_some h;cases h;obtain⟨g1,g2⟩:=oM h3;refine⟨by simp[g1],λi t ht=>?_⟩;cases i with
  | zero=>cases ht;exact⟨e,rfl,h1,λj q hj=>by omega⟩
  | succ i=>
   obtain⟨x,a1,a2,a3⟩:=g2 i t ht
   exact⟨x,a1,a2,λj q hj hq=>by obtain rfl:i=j:=by omega
                                exact a3 q hq⟩
theorem kL{v:Value}(h:v.oneCell'=true):(opC v).toList.all Value.oneCell'=true:=by simp only[List.all_cons,List.all_nil,h];rfl
theorem Af(e:Ent):(entL e).length=3:=rfl
theorem xd{w:World}{v:Value}{n:Nat}{L:List Ent}(h:CellsAt w v n 3 (L.flatMap entL)){i:Nat}{e:Ent}(hi:L[i]?=some e)(hn:i<n):∃ad,ixV 3 v (iv i)=some (.pointer (some ad))/\blockOf v=some ad.block/\aM w ad 3=some (.agg (entC e)):=by obtain⟨ad,h1,h2,h3⟩:=h.at (by omega) hn .i64;exact⟨ad,h1,h2,aN (l:=entL e) rfl λj hj=>by rw[h3 j hj,dE Af hi hj]⟩
structure LeafOk (p : Pg) : Prop where
 er : (pEnc p).2 = 0
 len : p.items.length ≤ 255
 kind : p.kind = 3
 level : p.level = 0
 right : p.right = 0
 high : p.high = []
theorem AD{p:Pg}(h:pErr p=0):p.items.length<=255:=by
 unfold pErr at h;simp only[cond_eq_ite,decide_eq_true_eq] at h;split at h
 ·cases h
 ·split at h
  ·cases h
  ·omega
theorem cm{p:Pg}{L:List Ent}(h:M.opened p=some L):LeafOk p/\M.ents p.items=some L:=by unfold M.opened at h;obtain⟨_,h1,h⟩:=bind_some h;have h1:=ak h1;unfold M.leafOk at h1;simp only[Bool.and_eq_true,decide_eq_true_eq] at h1;obtain⟨⟨h1,h2,h3,h4⟩,h5⟩:=h1;exact⟨⟨by unfold pEnc;rw[h1];rfl,AD h1,h2,h3,h4,h5⟩,h⟩
section
variable{w w':World}{n0:Nat}{v u:Value}{p:Pg}{L:List Ent}
theorem eF(h:PgN w n0 v p)(hs:∀s∈p.items,s.length<=1000000)(ho:M.opened p=some L):Cl prog 349 [.agg (pcs p v)] w λr w'=>∃ve,r=.tuple #[.agg (opC ve),.bool true]/\w'.ownsRow w.heap.size 221 3 ve L.length (L.flatMap entL)/\Fm F0 w w':=by
 obtain⟨hl,ho⟩:=cm ho;have h255:=hl.len;obtain⟨hLl,hLa⟩:=qD ho;have hi:=h.ins;refine c349 ?_;simp only[RU];refine ae ?_;rintro b1 w1 rfl hs1 hw1 hf1;refine ae ?_;rintro b2 w2 rfl hs2 hw2 hf2;refine ae ?_;rintro b3 w3 rfl hs3 hw3 hf3;have hw1:=hf3.heap (hf2.heap hw1 id) id;have hw2:=hf3.heap hw2 id;have hF:=Fmf (Fmf hf1 hf2) hf3;simp only[RU,PB.all hw1];refine(cI (h.keep hF).as).mono ?_;rintro _ w4 ⟨rfl,hf4⟩;have hw1:=hf4.heap hw1 id;simp only[RU,tV,hl.er,show((0:Int) != 0)=false from rfl,PB.c1 hw1,hl.kind,show((3:Int) != 3)=false from rfl,PB.c3 hw1,hl.right];refine(eL _ _ _).mono ?_;rintro _ w4 ⟨rfl,rfl⟩;simp only[RU,show(decide ((0:Int)<=0)&&decide ((0:Int)<=65535))=true from rfl,jn1,PB.c4 hw1,hl.high,gQ,decide_true,PB.c5 hw1,h.it.lenV];rw[<- hLl];refine⟨λvs w5=>∃(i:Nat) (ve:Value),vs=[iv i]/\i<=L.length/\w5.heap[w2.heap.size]?=some (.cells (opC ve) 416)/\w5.ownsRow w4.heap.size 221 3 ve i ((L.take i).flatMap entL)/\Fm (·=w2.heap.size) w4 w5,λvs _=>(L.length - nth vs 0).toNat,⟨0,.slice none 0 0,rfl,by omega,hf4.heap hw3 id,World.ownsRow_nil _ _ _ _,Fm.refl _ _⟩,?_⟩;rintro w5 iv_ ⟨i,ve,hvs,hi5,ho5,hov,hf5⟩;cases hvs;have z2:=hf2.size;have z4:=hf4.size;have hw15:=hf5.heap hw1 (show ¬_=_ by omega);have hw25:=hf5.heap (hf4.heap hw2 id) (show ¬_=_ by omega);by_cases hlt:i<L.length
 ·have hx:p.items[i]?=some p.items[i]:=List.getElem?_eq_getElem (by omega);have hsx:=hs p.items[i] (List.getElem_mem _);generalize p.items[i]=s at hx hsx;obtain⟨e,hLe,hde,hcmp⟩:=hLa i s hx;have hit5:CellsAt w5 v p.items.length 1 (p.items.map stv):=(h.it.keep (Fmf hF hf4) iT).gE hf5 (λhn g hg e=>by have:=h.it.blt hn g hg;omega);obtain⟨ad,hix,_,hc⟩:=hit5.j4 (i:=i) (x:=stv s) (by rw[List.getElem?_map,hx];rfl) .i64;simp only[RU,decide_eq_true (show(i:Int)<(L.length:Int) by omega),hix,hc];refine ae ?_;rintro b6 w6 rfl hs6 hw6 hf6;simp only[RU,PB.c2 (hf6.heap hw15 id),hl.level,show((0:Int) == 0)=true from rfl,jn1];refine(kl hsx hde).mono ?_;rintro _ w7 ⟨rfl,hf7⟩;simp only[RU];refine ao (hf7.heap hw6 id) λw8 hw8 hs8 hf8=>?_;simp only[RU,show((0:Int) != 0)=false from rfl];have zo:=aO hov;have z5:=hf5.size;have z7:=(Fmf hf6 hf7).size;have hf68:Fm F0 w5 w8:=Fm.own (Fmf hf6 hf7) hf8 (by rintro y rfl;exact Nat.le_refl _);have hov8:=ah hov hf68 (λ_ _ _ _ e=>e);have hw58:=hf68.heap ho5 id;have hw18:=hf68.heap hw15 id;apply HA (A:=Fm F0 w8)
  ·intro H;rcases Nat.eq_zero_or_pos i with h0|h0
   ·simp only[RU,decide_eq_false (show ¬(0:Int)<(i:Int) by omega)];have hf9:=Fm.drew F0 w8;generalize w8.drew=w9 at hf9;exact H w9 hf9
   ·obtain⟨j,rfl⟩:∃j,i=j+1:=⟨i - 1,by omega⟩;have hq:L[j]?=some L[j]:=List.getElem?_eq_getElem (by omega);have hlt0:=hcmp j L[j] rfl hq;generalize L[j]=q at hq hlt0;have hcv:=(CellsAt.aT hov8).keep (Fm.drew F0 w8) iT;obtain⟨ad2,k1,_,k3⟩:=xd hcv (i:=j) (e:=q) (by rw[List.getElem?_take,if_pos (by omega)];exact hq) (by omega);have hd8:=(Fm.drew F0 w8).heap hw58 id;simp only[RU,decide_eq_true (show(0:Int)<((j+1:Nat):Int) by omega),ab hd8,show IntKind.i64.wrap (((j+1:Nat):Int) - 1)=(j:Int) by rw[af]<;>omega,k1,k3,aa (n:=3) ((Fm.drew F0 w8).heap hw8 id) rfl];refine(gV q e).mono ?_;rintro _ w9 ⟨rfl,hf9⟩;simp only[RU,decide_eq_false (show ¬0<=eP q e by omega)];exact H w9 (Fmf (Fm.drew F0 w8) hf9)
  ·intro w9 hf9;have hw59:=hf9.heap hw58 id;simp only[RU,aa (n:=3) (hf9.heap hw8 id) rfl,cT (o:=2) (n:=3) (us:=entC M.ent0) hw59 (show 2+3<=6 by decide) rfl];refine(gV e M.ent0).mono ?_;rintro _ w10 ⟨rfl,hf10⟩;have hf10:=Fmf hf9 hf10;have hw510:=hf10.heap hw58 id;simp only[RU,ab hw510,aa (n:=3) (hf10.heap hw8 id) rfl];refine dp E76 (by omega) 76 (cs:=entL e) rfl (by kernel_rfl) (by intro u hu;simp at hu;rcases hu with rfl|rfl|rfl<;>rfl) (ah hov8 hf10 (λ_ _ _ _ e=>e)) (by unfold maxLen;omega) (by omega) (by have:=hf68.size;have:=hf10.size;omega) ?_;intro ve' w11 ho11 _ hf11;refine au (hf11.heap hw510 (show ¬_<=_ by omega)) (j:=0) (show 0<6 by decide) (aB ho11) λw12 hw12 hs12 hf12=>?_;simp only[RU,show IntKind.i64.wrap ((i:Int)+1)=((i+1:Nat):Int) by rw[af]<;>omega];refine⟨⟨i+1,ve',rfl,by omega,hw12,?_,?_⟩,by simp only[ba];omega⟩
   ·rw[List.take_add_one,hLe,List.flatMap_append];refine ah (by simpa using ho11) hf12 (λk hk _ _ e=>by omega)
   ·have:=hf68.size;have:=hf10.size;exact((hf5.trans (Fmf hf68 hf10) iT iE).trans hf11 iT (λy hy e=>by omega)).trans hf12 iT iT
 ·obtain rfl:i=L.length:=by omega
  rw[List.take_length] at hov;have c0:=(Fm.drew F0 w5).heap ho5 id;simp only[RU,decide_eq_false (show ¬((L.length:Nat):Int)<(L.length:Int) by omega)];refine⟨λw'=>Fm (·=w1.heap.size) w5 w',(Fm.drew _ _),?_⟩;simp only[RU,aa (n:=6) c0 rfl,PB.c2 hw15,hl.level,show((0:Int) == 0)=true from rfl];refine⟨undef,λ_ _=>⟨rfl,trivial⟩,ao ((Fm.drew F0 w5).heap hw25 id) (λw6 hw6 hs6 hf6=>?_) rfl rfl (kL (aB hov))⟩;have hf6:=(Fm.drew F0 w5).trans hf6 (U:=(·=w1.heap.size)) iE iT;refine⟨hf6,GZ (n:=6) hw6 rfl rfl ⟨ve,rfl,aU (ah hov hf6 (λk hk _ _ e=>by omega)) (by omega),?_⟩⟩;exact Fm.own (Fm.own (Fmf hF hf4) hf5 (by rintro y rfl;omega)) hf6 (by rintro y rfl;omega)
theorem kH(h:PgN w n0 v p)(hs:∀s∈p.items,s.length<=1000000)(ho:M.opened p=some L):Cl prog 290 [.agg (pcs p v)] w λr w'=>r=iv 0/\Fm F0 w w':=by refine cU1 func290 ?_;refine ae ?_;rintro b1 w1 rfl hs1 hw1 hf1;simp only[RU,PB.all hw1];refine(eF (h.keep hf1) hs ho).mono ?_;rintro _ w2 ⟨ve,rfl,hov,hf2⟩;simp only[RU];refine aE (λw3 hs3 hw3 hf3=>?_) rfl rfl (kL (aB hov));exact Fmf hf1 (Fmf hf2 hf3)
theorem mq(h:PgN w n0 v p)(hs:∀s∈p.items,s.length<=1000000)(ho:M.opened p=some L):Cl prog 293 [.agg (pcs p v)] w λr w'=>∃ve,r=.tuple #[ve,iv 0]/\w'.ownsRow w.heap.size 221 3 ve L.length (L.flatMap entL)/\Fm F0 w w':=by have hl:=(cm ho).1;refine cU1 func293 ?_;refine ae ?_;rintro b1 w1 rfl hs1 hw1 hf1;simp only[RU,PB.all hw1];refine(eF (h.keep hf1) hs ho).mono ?_;rintro _ w2 ⟨ve,rfl,hov,hf2⟩;simp only[RU];refine aE (λw3 hs3 hw3 hf3=>?_) rfl rfl (kL (aB hov));simp only[RU,PB.c2 (hf3.heap (hf2.heap hw1 id) id),hl.level,show((0:Int) != 0)=false from rfl,ab hw3];exact⟨ve,rfl,aU (ah hov hf3 (λ_ _ _ _ e=>e)) (by omega),Fmf hf1 (Fmf hf2 hf3)⟩
theorem rZ(ve:Value)(e:Ent):Cl prog 351 [.agg (opC ve),.agg (entC e)] w λr w'=>r=.bool false/\Fm F0 w w':=by refine cU2 func351 ?_;refine ae ?_;rintro b6 w6 rfl hs6 hw6 hf6;refine ae ?_;rintro b7 w7 rfl hs7 hw7 hf7;simp only[RU,ab (hf7.heap hw6 id)];exact Fmf hf6 hf7
theorem xN(h:PgN w n0 v p)(hs:∀s∈p.items,s.length<=1000000)(ho:M.opened p=some L){e:Ent}(he:entOk e=true):Cl prog 291 [.agg (pcs p v),.agg (entC e)] w λr w'=>r=.tuple #[.bool false,iv 0]/\Fm F0 w w':=by refine cU2 func291 ?_;refine ae ?_;rintro b1 w1 rfl hs1 hw1 hf1;refine ae ?_;rintro b2 w2 rfl hs2 hw2 hf2;simp only[RU,PB.all (hf2.heap hw1 id)];refine(eF (h.keep (Fmf hf1 hf2)) hs ho).mono ?_;rintro _ w3 ⟨ve,rfl,hov,hf3⟩;simp only[RU];refine aE (λw4 hs4 hw4 hf4=>?_) rfl rfl (kL (aB hov));have hf34:=Fmf hf3 hf4;simp only[RU,aa (n:=3) (hf34.heap hw2 id) rfl];refine(fP he).mono ?_;rintro _ w5 ⟨rfl,hf5⟩;simp only[RU,aa (n:=6) (hf5.heap hw4 id) rfl,aa (n:=3) ((Fmf hf34 hf5).heap hw2 id) rfl];refine(rZ ve e).mono ?_;rintro _ w6 ⟨rfl,hf6⟩;simp only[RU];exact Fmf (Fmf hf1 hf2) (Fmf (Fmf hf34 hf5) hf6)
theorem EH(n:Nat):shV .shr .u64 (n:Int) 1=some (.int .u64 ((n / 2:Nat):Int)):=by
 have e:shV .shr .u64 (n:Int) 1=some (.int .u64 ((n:Int).fdiv (2 ^ 1))):=rfl;rw[e,Int.fdiv_eq_ediv_of_nonneg _ (by decide)]
 rfl
theorem ow{va:Value}(hv:CellsAt w va L.length 3 (L.flatMap entL))(hn:L.length<=1000)(e:Ent):Cl prog 352 [va,.agg (entC e),.func (.func 353) #[] #[]] w λr w'=>r=.tuple #[iv (M.spot L e),.bool (!(M.notAt L e (M.spot L e)))]/\Fm F0 w w':=by
 refine cU3 func352 ?_ (V [(3,[9,10])]);refine ae ?_;rintro b1 w1 rfl hs1 hw1 hf1;simp only[RU,hv.lenV];refine⟨λvs w2=>∃i j f:Nat,vs=[iv i,iv j]/\i<=j/\j<=L.length/\j - i<f/\M.bsGo L e f i j=M.spot L e/\Fm F0 w1 w2,λvs _=>(nth vs 1 - nth vs 0).toNat,⟨0,L.length,_,rfl,by omega,by omega,by omega,rfl,Fm.refl _ _⟩,?_⟩;rintro w2 v1 v2 ⟨i,j,f,hvs,hij,hj,hf,hgo,hf2⟩;cases hvs;have hv2:=hv.keep (Fmf hf1 hf2) iT;have hw2:=hf2.heap hw1 id;have hd:=Fm.drew F0 w2;obtain⟨f,rfl⟩:∃g,f=g+1:=⟨f - 1,by omega⟩;rw[M.bsGo] at hgo;by_cases hlt:i<j
 ·rw[decide_eq_true hlt,cond_true] at hgo;have hx:L[(i+j) / 2]?=some L[(i+j) / 2]:=List.getElem?_eq_getElem (by omega);have hx2:L.getD ((i+j) / 2) M.ent0=L[(i+j) / 2]:=by rw[List.getD_eq_getElem?_getD,hx];rfl
  rw[hx2] at hgo;generalize L[(i+j) / 2]=x at hx hgo;obtain⟨ad,k1,_,k3⟩:=xd (hv2.keep hd iT) hx (by omega);simp only[RU,decide_eq_true (show(i:Int)<(j:Int) by omega),show IntKind.i64.wrap ((i:Int)+(j:Int))=((i+j:Nat):Int) by rw[af]<;>omega,bR,eM (n:=i+j) (by omega),jz,EH,show IntKind.i64.wrap (((i+j) / 2:Nat):Int)=(((i+j) / 2:Nat):Int) by rw[af]<;>omega,k1,k3,aa (n:=3) (hd.heap hw2 id) rfl];refine ay (by kernel_rfl) ?_;simp only[RU,List.nil_append,List.append_nil];refine(gV x e).mono ?_;rintro _ w3 ⟨rfl,hf3⟩;have hf3:=Fmf hf2 (Fmf hd hf3);by_cases hc:eP x e<0
  ·rw[decide_eq_true hc,cond_true] at hgo;simp only[RU,decide_eq_true hc,show IntKind.i64.wrap ((((i+j) / 2:Nat):Int)+1)=(((i+j) / 2+1:Nat):Int) by rw[af]<;>omega];exact⟨⟨_,j,f,rfl,by omega,hj,by omega,hgo,hf3⟩,by simp only[ba,cN];omega⟩
  ·rw[decide_eq_false hc,cond_false] at hgo;simp only[RU,decide_eq_false hc];exact⟨⟨i,_,f,rfl,by omega,by omega,by omega,hgo,hf3⟩,by simp only[ba,cN];omega⟩
 ·rw[decide_eq_false hlt,cond_false] at hgo;simp only[RU,decide_eq_false (show ¬(i:Int)<(j:Int) by omega)];rw[<- hgo];unfold M.notAt;have hfd:=Fmf hf1 (Fmf hf2 hd);by_cases hl:i<L.length
  ·have hx:L[i]?=some L[i]:=List.getElem?_eq_getElem hl;rw[hx];generalize L[i]=x at hx;obtain⟨ad,k1,_,k3⟩:=xd (hv2.keep hd iT) hx hl;simp only[RU,decide_eq_true (show(i:Int)<(L.length:Int) by omega),k1,k3,aa (n:=3) (hd.heap hw2 id) rfl];refine ay (by kernel_rfl) ?_;simp only[RU,List.nil_append,List.append_nil];refine(gV x e).mono ?_;rintro _ w3 ⟨rfl,hf3⟩;simp only[RU];exact⟨by rw[aV];simp,Fmf hfd hf3⟩
  ·simp only[RU,decide_eq_false (show ¬(i:Int)<(L.length:Int) by omega),List.getElem?_eq_none (show L.length<=i by omega)];exact hfd
theorem qw(L:List Ent)(e:Ent):∀(f i j:Nat),i<=j->M.bsGo L e f i j<=j
 | 0,i,j,h=>h
 | f+1,i,j,h=>by
  rw[M.bsGo];by_cases hl:i<j
  ·rw[decide_eq_true hl,cond_true];cases decide (eP (L.getD ((i+j) / 2) M.ent0) e<0) with
   | true=>exact qw L e f _ _ (by omega)
   | false=>exact Nat.le_trans (qw L e f _ _ (by omega)) (by omega)
  ·rw[decide_eq_false hl];exact h
theorem Dq(L:List Ent)(e:Ent):M.spot L e<=L.length:=qw L e _ _ _ (Nat.zero_le _)
theorem Ae{e:Ent}(h:entOk e=true):(sA e).length<=1000000:=by unfold entOk at h;rw[decide_eq_true_eq] at h;have e1:=aK (n:=e.page) (by omega);have e2:=aK (n:=e.slot) (by omega);have e3:=aK (n:=e.key.length) (by omega);simp only[sA,iM,List.length_append];omega
theorem jl(h:PgN w n0 v p)(hs:∀s∈p.items,s.length<=1000000){e:Ent}{q:Pg}(hq:M.nodeIn p e=some q):Cl prog 372 [.agg (pcs p v),.agg (entC e)] w λr w'=>∃u,r=.tuple #[.agg (pcs q u),iv 0]/\PgN w' w.heap.size u q/\Fm F0 w w':=by
 unfold M.nodeIn at hq;obtain⟨L,ho,hq⟩:=bind_some hq;obtain⟨_,h1,hq⟩:=bind_some hq;have h1:=ak h1;rw[Bool.and_eq_true] at h1;obtain⟨he,hna⟩:=h1;unfold M.fitsP at hq;obtain⟨_,hfit,hq⟩:=bind_some hq;have hfit:=ak hfit
 replace hq:wi p (M.putIt p.items (M.spot L e) (sA e))=q:=Option.some.inj hq
 replace hfit:eW (wi p (M.putIt p.items (M.spot L e) (sA e)))=true:=hfit
 have hl:=(cm ho).1;have hll:=(qD (cm ho).2).1;have h255:=hl.len;refine cU2 func372 ?_;refine ae ?_;rintro b1 w1 rfl hs1 hw1 hf1;refine ae ?_;rintro b2 w2 rfl hs2 hw2 hf2;refine ae ?_;rintro b3 w3 rfl hs3 hw3 hf3;have hF:=Fmf hf1 (Fmf hf2 hf3);have hw1:=hf3.heap (hf2.heap hw1 id) id;have hw2:=hf3.heap hw2 id;simp only[RU,PB.all hw1];refine(eF (h.keep hF) hs ho).mono ?_;rintro _ w4 ⟨ve,rfl,hov,hf4⟩;simp only[RU];refine aE (λw5 hs5 hw5 hf5=>?_) rfl rfl (kL (aB hov));have g5:=hf5;have hf5:=Fmf hf4 hf5;simp only[RU,PB.c2 (hf5.heap hw1 id),hl.level,show((0:Int) != 0)=false from rfl,aa (n:=3) (hf5.heap hw2 id) rfl];refine(fP he).mono ?_;rintro _ w6 ⟨rfl,hf6⟩;have g6:=Fmf g5 hf6;have hw5:=hf6.heap hw5 id;have hf6:=Fmf hf5 hf6;simp only[RU,aa (n:=6) hw5 rfl,aa (n:=3) (hf6.heap hw2 id) rfl];refine(rZ ve e).mono ?_;rintro _ w7 ⟨rfl,hf7⟩;have g7:=Fmf g6 hf7;have hw5:=hf7.heap hw5 id;have hf7:=Fmf hf6 hf7;simp only[RU,ab hw5,aa (n:=3) (hf7.heap hw2 id) rfl];refine(ow ((CellsAt.aT hov).keep g7 iT) (by omega) e).mono ?_;rintro _ w8 ⟨rfl,hf8⟩;have hf8:=Fmf hf7 hf8;simp only[RU,hna];have hfd:=Fmf hf8 (Fm.drew F0 w8);refine⟨λw'=>Fm F0 w3 w',hfd,rdP (λw' hf=>PB.all (hf.heap hw1 id)) ?_⟩;simp only[RU,aa (n:=3) (hfd.heap hw2 id) rfl];refine(kj he).mono ?_;rintro _ w9 ⟨rfl,hf9⟩;have hf9:=Fmf hfd hf9;have hF9:=Fmf hF hf9;refine⟨hf9,?_⟩;have hp:=kX (h.keep hF9) (j:=M.spot L e) (by have:=Dq L e;omega) (Ae he) hfit;rw[hq] at hp;refine hp.mono ?_;rintro _ w10 ⟨u,rfl,hN,hf10⟩;simp only[RU];refine ao ((Fmf hf9 hf10).heap hw3 id) (λw11 hw11 hs11 hf11=>?_) rfl rfl (lM _ hN.one);simp only[RU,aa (n:=6) hw11 rfl];have z2:=hf2.size;have z3:=hf3.size;have z9:=hf9.size;exact⟨u,rfl,(hN.dO hf11 (by rintro y rfl;omega)).base hF9.size,Fm.own (Fmf hF9 hf10) hf11 (by rintro y rfl;omega)⟩
end
theorem stl(l:Bs):(str l).toList=l:=by rw[Go.ByteArray.toList_eq];rfl
theorem GI(o1 o2:Operand)(p q:Ent)(w:World):(DN .eql 221 o1 o2 (.agg (entC p)) (.agg (entC q))).run prog w=.ok (.bool (decide (p=q))) w:=by
 have hS:prog.underlying 221=some (.struct (prog.fieldsOf 221)):=by kernel_rfl
 have hp:prog.stoodInHeld 221=false:=by kernel_rfl
 have hm:prog.eqGuardType prog.depth 221=false:=by kernel_rfl
 have u3:=underlying3;have u9:=underlying9;unfold DN;rw[Sem.run_bind,run_eqGuard_agg w .eql 221 o1 o2 _ _ hm,Result.andThen_ok,run_eql_struct,show(10000:Nat)=9999+1 from rfl,run_equalIn_agg w 9999 221 _ _ hS hp];have a3:=isAgg3;have z3:=sizeOf3;have a9:=isAgg9;have z9:=sizeOf9;simp only[Program.fieldsOf,underlying221];obtain⟨p1,p2,p3⟩:=p;obtain⟨q1,q2,q3⟩:=q
 go_simp
 by_cases h1:p1=q1<;>by_cases h2:p2=q2<;>by_cases h3:p3=q3<;>simp[h1,h2,h3,bn,stl]
section
variable{w w':World}{n0:Nat}{v u:Value}{p q:Pg}{L:List Ent}
theorem tU{va:Value}(hv:CellsAt w va L.length 3 (L.flatMap entL)){e:Ent}(he:e∉L):Cl prog 294 [va,.agg (entC e)] w λr w'=>r=.bool false/\Fm F0 w w':=by
 have hlt:=hv.lt;unfold maxLen at hlt;refine cU2 func294 ?_;refine ae ?_;rintro b1 w1 rfl hs1 hw1 hf1;simp only[RU,aa (n:=3) hw1 rfl];refine cU2 func354 ?_ (V [(2,[8])]);refine ae ?_;rintro b2 w2 rfl hs2 hw2 hf2;simp only[RU,hv.lenV];refine⟨λvs w3=>∃i:Nat,vs=[iv i]/\i<=L.length/\Fm F0 w2 w3,λvs _=>(L.length - nth vs 0).toNat,⟨0,rfl,by omega,Fm.refl _ _⟩,?_⟩;rintro w3 v1 ⟨i,hvs,hi,hf3⟩;cases hvs;by_cases hl:i<L.length
 ·have hx:L[i]?=some L[i]:=List.getElem?_eq_getElem hl;have hne:e≠L[i]:=λh=>he (h▸List.getElem_mem hl);generalize L[i]=x at hx hne;have hfd:=Fmf hf3 (Fm.drew F0 w3);obtain⟨ad,k1,_,k3⟩:=xd (hv.keep (Fmf (Fmf hf1 hf2) hfd) iT) hx hl;simp only[RU,decide_eq_true (show(i:Int)<(L.length:Int) by omega),aa (n:=3) (hfd.heap hw2 id) rfl,k1,k3];refine ag (GI _ _ _ _ _) ?_;simp only[RU,decide_eq_false hne,show IntKind.i64.wrap ((i:Int)+1)=((i+1:Nat):Int) by rw[af]<;>omega];exact⟨⟨i+1,rfl,by omega,hfd⟩,by simp only[ba];omega⟩
 ·simp only[RU,decide_eq_false (show ¬(i:Int)<(L.length:Int) by omega),show decide ((0:Int)<=-1)=false from rfl];exact Fmf (Fmf hf1 hf2) hf3
theorem tA(h:PgN w n0 v p)(hs:∀s∈p.items,s.length<=1000000)(ho:M.opened p=some L){e:Ent}(he:entOk e=true):Cl prog 206 [.agg (pcs p v),iv 0,.agg (entC e)] w λr w'=>r=.tuple #[iv 0,.bool true,iv 0]/\Fm F0 w w':=by have hl:=(cm ho).1;refine cU3 func206 ?_;refine ae ?_;rintro b1 w1 rfl hs1 hw1 hf1;refine ae ?_;rintro b2 w2 rfl hs2 hw2 hf2;have hF:=Fmf hf1 hf2;have hw1:=hf2.heap hw1 id;simp only[RU,show decide ((0:Int)<0)=false from rfl,PB.c2 hw1,hl.level,PB.all hw1];refine(kH (h.keep hF) hs ho).mono ?_;rintro _ w3 ⟨rfl,hf3⟩;simp only[RU,show((0:Int) != 0)=false from rfl,PB.all (hf3.heap hw1 id),aa (n:=3) (hf3.heap hw2 id) rfl];refine(xN (h.keep (Fmf hF hf3)) hs ho he).mono ?_;rintro _ w4 ⟨rfl,hf4⟩;have hf4:=Fmf hf3 hf4;simp only[RU,show((0:Int) == 0)=true from rfl,PB.c2 (hf4.heap hw1 id),hl.level];exact Fmf hF hf4
theorem oo{item:Bs}(hq:M.blay p item=some q):∃e L,fh item=some e/\M.opened p=some L/\e∉L/\M.nodeIn p e=some q/\entOk e=true:=by unfold M.blay at hq;obtain⟨e,h1,hq⟩:=bind_some hq;obtain⟨L,h2,hq⟩:=bind_some hq;obtain⟨_,h3,hq⟩:=bind_some hq;have h3:=ak h3;refine⟨e,L,h1,h2,by simpa using h3,hq,?_⟩;unfold M.nodeIn at hq;obtain⟨_,_,hq⟩:=bind_some hq;obtain⟨_,h5,_⟩:=bind_some hq;have h5:=ak h5;rw[Bool.and_eq_true] at h5;exact h5.1
theorem wo(h:PgN w n0 v p)(hs:∀s∈p.items,s.length<=1000000){item:Bs}(hi:item.length<=1000000)(hq:M.blay p item=some q):Cl prog 363 [.agg (pcs p v),stv item] w λr w'=>∃u e,r=.tuple #[.agg (pcs q u),.agg (entC e),iv 0]/\PgN w' w.heap.size u q/\Fm F0 w w':=by obtain⟨e,L,hd,ho,hne,hn,he⟩:=oo hq;have hl:=(cm ho).1;refine cU2 func363 ?_ (V []) (J [(22,[9])]);refine ae ?_;rintro b1 w1 rfl hs1 hw1 hf1;refine ae ?_;rintro b2 w2 rfl hs2 hw2 hf2;refine ae ?_;rintro b3 w3 rfl hs3 hw3 hf3;have hF:=Fmf hf1 (Fmf hf2 hf3);have hw1:=hf3.heap (hf2.heap hw1 id) id;have hw2:=hf3.heap hw2 id;simp only[RU,PB.all hw1];refine(kH (h.keep hF) hs ho).mono ?_;rintro _ w4 ⟨rfl,hf4⟩;have z4:=hf4.size;simp only[RU,show((0:Int) != 0)=false from rfl];refine ae ?_;rintro b5 w5 rfl hs5 hw5 hf5;refine ae ?_;rintro b6 w6 rfl hs6 hw6 hf6;have hw5:=hf6.heap hw5 id;have hf6:=Fmf hf4 (Fmf hf5 hf6);simp only[RU,jn1,PB.c2 (hf6.heap hw1 id),hl.level,show((0:Int) == 0)=true from rfl];refine(kl hi hd).mono ?_;rintro _ w7 ⟨rfl,hf7⟩;simp only[RU];refine ao (hf7.heap hw6 id) λw8 hw8 hs8 hf8=>?_;have z8:=hf7.size;have hw5:=hf8.heap (hf7.heap hw5 id) (show ¬_=_ by omega);have hf8:=Fm.own (Fmf hf6 hf7) hf8 (by rintro y rfl;omega);simp only[RU,show((0:Int) != 0)=false from rfl,PB.all (hf8.heap hw1 id)];refine(mq (h.keep (Fmf hF hf8)) hs ho).mono ?_;rintro _ w9 ⟨ve,rfl,hov,hf9⟩;have hw8:=hf9.heap hw8 id;simp only[RU,aa (n:=3) hw8 rfl];refine(tU (CellsAt.aT hov) hne).mono ?_;rintro _ w10 ⟨rfl,hf10⟩;have hw8:=hf10.heap hw8 id;have g10:=Fmf hf9 hf10;have hf10:=Fmf hf8 g10;simp only[RU,PB.all (hf10.heap hw1 id),aa (n:=3) hw8 rfl];refine(jl (h.keep (Fmf hF hf10)) hs hn).mono ?_;rintro _ w11 ⟨u,rfl,hN,hf11⟩;have hw8:=hf11.heap hw8 id;have z11:=(Fmf g10 hf11).size;have z10:=g10.size;simp only[RU];refine ao ((Fmf g10 hf11).heap hw5 id) (λw12 hw12 hs12 hf12=>?_) rfl rfl (lM _ hN.one);have hw8:=hf12.heap hw8 (show ¬_=_ by omega);have hN:=hN.dO hf12 (by rintro y rfl;omega);have hf12:=Fm.own (Fmf hf10 hf11) hf12 (by rintro y rfl;omega);have hfd:=Fmf hf12 (Fm.drew F0 w12);refine⟨λw'=>Fm (·=w1.heap.size) w12 w',Fm.drew _ _,?_⟩;simp only[RU,aa (n:=6) ((Fm.drew F0 w12).heap hw12 id) rfl];refine rdP (λw' hf=>aa (n:=3) (hf.heap hw8 (show ¬_=_ by omega)) rfl) ?_;refine ao (hfd.heap hw2 id) (λw13 hw13 hs13 hf13=>?_) rfl rfl (lM _ hN.one);have g13:=(Fm.drew F0 w12).trans hf13 (U:=(·=w1.heap.size)) iE iT;refine⟨g13,ao (g13.heap (hf12.heap hw3 id) (show ¬_=_ by omega)) (λw14 hw14 hs14 hf14=>?_)⟩;simp only[RU,aa (n:=6) (hf14.heap hw13 (show ¬_=_ by omega)) rfl,aa (n:=3) hw14 rfl];have z12:=hf12.size;have hN:=(hN.dO g13 (by rintro y rfl;omega)).dO hf14 (by rintro y rfl;omega);exact⟨u,e,rfl,hN.base (by omega),Fm.own (Fm.own (Fmf hF hf12) g13 (by rintro y rfl;omega)) hf14 (by rintro y rfl;omega)⟩
theorem pt(h:PgN w n0 v p)(hs:∀s∈p.items,s.length<=1000000){item:Bs}(hi:item.length<=1000000)(hq:M.blay p item=some q)(n:Int):Cl prog 303 [.agg (pcs p v),iv n,stv item] w λr w'=>r=.tuple #[iv 0,iv 0]/\Fm F0 w w':=by refine cU3 func303 ?_;refine ae ?_;rintro b1 w1 rfl hs1 hw1 hf1;simp only[RU,PB.all hw1];refine(wo (h.keep hf1) hs hi hq).mono ?_;rintro _ w2 ⟨u,e,rfl,hN,hf2⟩;simp only[RU];refine ae ?_;rintro b3 w3 rfl hs3 hw3 hf3;refine ae ?_;rintro b4 w4 rfl hs4 hw4 hf4;refine ao (hf4.heap hw3 id) (λw5 hw5 hs5 hf5=>?_) rfl rfl (lM _ hN.one);refine ao (hf5.heap hw4 (show ¬_=_ by omega)) λw6 hw6 hs6 hf6=>?_;simp only[RU,show((0:Int) != 3)=true from rfl];have z:=hf2.size;exact Fm.own (Fm.own (Fmf hf1 (Fmf hf2 (Fmf hf3 hf4))) hf5 (by rintro y rfl;omega)) hf6 (by rintro y rfl;omega)
theorem apart_spec:Cl prog 434 [.slice none 0 0,iv 0] w λr w'=>r=.bool true/\Fm F0 w w':=by refine cU2 func434 ?_;simp only[RU,show(((0:Nat):Int) != 0)=false from rfl];refine cU2 func103 ?_;refine cU2 func101 ?_ (V [(2,[8])]);refine⟨λvs w'=>vs=[iv 0]/\w'=w,λ_ _=>0,⟨rfl,rfl⟩,?_⟩;rintro w2 v1 ⟨hv,rfl⟩;cases hv;simp only[RU,show decide ((0:Int)<((0:Nat):Int))=false from rfl,show decide ((0:Int)<=-1)=false from rfl,show decide ((0:Int)<2)=true from rfl];exact Fm.drew _ _
theorem tY(h:PgN w n0 v p)(hs:∀s∈p.items,s.length<=1000000){item:Bs}(hi:item.length<=1000000)(hq:M.blay p item=some q)(n:Int):Cl prog 411 [.agg (pcs p v),iv n,stv item,.slice none 0 0] w λr w'=>r=.tuple #[.agg (rcs { M.rec0 with kind:=3,page:=n,data:=item } nl nl nl nl nl),iv 0]/\Fm F0 w w':=by refine cU4 func411 ?_ (V []) (J [(18,[19]),(24,[11,22])]);refine ae ?_;rintro b1 w1 rfl hs1 hw1 hf1;refine ae ?_;rintro b2 w2 rfl hs2 hw2 hf2;have hF:=Fmf hf1 hf2;simp only[RU,PB.all (hf2.heap hw1 id)];refine(pt (h.keep hF) hs hi hq n).mono ?_;rintro _ w3 ⟨rfl,hf3⟩;simp only[RU,show((0:Int) != 0)=false from rfl];refine(apart_spec).mono ?_;rintro _ w4 ⟨rfl,hf4⟩;have hf4:=Fmf hf3 hf4;simp only[RU,show((0:Int) == 0)=true from rfl];refine bst (rcs { M.rec0 with kind:=3,page:=n,data:=item } nl nl nl nl nl) (ao (hf4.heap hw2 id) λw5 hw5 hs5 hf5=>?_);simp only[RU,aa (n:=16) hw5 rfl];exact Fm.own (Fmf hF hf4) hf5 (by rintro y rfl;omega)
theorem tC(r:Rc)(h5:r.kind≠5){a b c d e:Value}:Cl prog 412 [.agg (rcs r a b c d e)] w λv w'=>v=.tuple #[.agg (entC M.ent0),iv 0,.bool false]/\Fm F0 w w':=by refine cU1 func412 ?_;refine ae ?_;rintro b1 w1 rfl hs1 hw1 hf1;refine ae ?_;rintro b2 w2 rfl hs2 hw2 hf2;simp only[RU,show w2.cell? ⟨w.heap.size,3,none⟩=some (.int .u8 r.kind) by rw[ab (hf2.heap hw1 id)];rfl,aG,decide_eq_false h5];refine bst (entC M.ent0) (ao hw2 λw3 hw3 hs3 hf3=>?_);simp only[RU,aa (n:=3) hw3 rfl];exact Fm.own (Fmf hf1 hf2) hf3 (by rintro y rfl;omega)
theorem nf:∀a b:Bs,Op.bytesLess a b=decide (M.cmpB a b<0)
 | [],[]=>rfl
 | [],_::_=>rfl
 | _::_,[]=>rfl
 | x::a,y::b=>by
  rw[Op.bytesLess,M.cmpB,nf a b];have e:(x == y)=decide (x.toNat=y.toNat):=by rw[Bool.eq_iff_iff];simp[UInt8.toNat_inj]
  simp only[UInt8.lt_iff_toNat_lt,e];rcases Nat.lt_trichotomy x.toNat y.toNat with h|h|h
  ·simp[h]
  ·simp[h]
  ·simp[h,show ¬x.toNat<y.toNat by omega,show ¬x.toNat=y.toNat by omega]
theorem xn(h:PgN w n0 v p)(hs:∀s∈p.items,s.length<=1000000){f t:Bs}{R:List Ent}(hq:M.hits p f t=some R):Cl prog 357 [.agg (pcs p v),stv f,stv t] w λr w'=>∃vo,r=.tuple #[vo,.bool false,iv 0]/\w'.ownsRow w.heap.size 221 3 vo R.length (R.flatMap entL)/\Fm F0 w w':=by
 unfold M.hits at hq;obtain⟨L,ho,hq⟩:=bind_some hq;cases hq;have hl:=(cm ho).1;have hll:=(qD (cm ho).2).1;have h255:=hl.len;refine cU3 func357 ?_ (V [(7,[12,28])]) (J [(11,[12])]);refine ae ?_;rintro b1 w1 rfl hs1 hw1 hf1;refine ae ?_;rintro b2 w2 rfl hs2 hw2 hf2;have hw1:=hf2.heap hw1 id;have hF:=Fmf hf1 hf2;simp only[RU,PB.all hw1];refine(mq (h.keep hF) hs ho).mono ?_;rintro _ w3 ⟨ve,rfl,hov,hf3⟩;simp only[RU,show((0:Int) != 0)=false from rfl,(CellsAt.aT hov).lenV];refine⟨λvs w4=>∃(k:Nat) (vo:Value),vs=[vo,iv k]/\k<=L.length/\w4.ownsRow w3.heap.size 221 3 vo ((L.take k).filter λe=>decide (0<=M.cmpB e.key f)&&M.below t e.key).length (((L.take k).filter λe=>decide (0<=M.cmpB e.key f)&&M.below t e.key).flatMap entL)/\Fm F0 w3 w4,λvs _=>(L.length - nth vs 1).toNat,⟨0,_,rfl,by omega,by simpa using World.ownsRow_nil w3 _ _ _,Fm.refl _ _⟩,?_⟩;rintro w4 vo v1 ⟨k,_,hvs,hk,ho4,hf4⟩;cases hvs;by_cases hlt:k<L.length
 ·have hx:L[k]?=some L[k]:=List.getElem?_eq_getElem hlt;generalize L[k]=x at hx;obtain⟨ad,k1,_,k3⟩:=xd ((CellsAt.aT hov).keep hf4 iT) hx hlt;have z3:=hf3.size;have z4:=hf4.size;simp only[RU,decide_eq_true (show(k:Int)<(L.length:Int) by omega),jn1,k1,k3];refine aE λw5 hs5 hw5 hf5=>?_;have g5:=Fmf hf4 hf5;have ho5:=ah ho4 hf5 (λ_ _ _ _ e=>e);have hw25:=(Fmf hf3 g5).heap hw2 id;have egq:ax TypeDesc.string .geq (stv x.key) (stv f)=some (.bool (decide (0<=M.cmpB x.key f))):=by rw[wj,stl,stl,nf];congr 2;by_cases h:M.cmpB x.key f<0<;>simp[h]<;>omega
  have fin:∀b:Bool,(decide (0<=M.cmpB x.key f)&&M.below t x.key)=b->(L.take (k+1)).filter (λe=>decide (0<=M.cmpB e.key f)&&M.below t e.key)=(L.take k).filter (λe=>decide (0<=M.cmpB e.key f)&&M.below t e.key)++(bif b then[x] else[]):=by intro b hb;rw[List.take_add_one,hx,List.filter_append];cases b<;>simp[hb]
  have e1:IntKind.i64.wrap ((k:Int)+1)=((k+1:Nat):Int):=by rw[af]<;>omega
  have hlen:((L.take k).filter λe=>decide (0<=M.cmpB e.key f)&&M.below t e.key).length<=255:=Nat.le_trans (List.length_filter_le _ _) (by rw[List.length_take];omega);generalize (L.take k).filter (λe=>decide (0<=M.cmpB e.key f)&&M.below t e.key)=R at ho5 fin hlen;have no:(decide (0<=M.cmpB x.key f)&&M.below t x.key)=false->(∃(k':Nat) (vo':Value),[vo,iv ((k+1:Nat):Int)]=[vo',iv k']/\k'<=L.length/\w5.ownsRow w3.heap.size 221 3 vo' ((L.take k').filter λe=>decide (0<=M.cmpB e.key f)&&M.below t e.key).length (((L.take k').filter λe=>decide (0<=M.cmpB e.key f)&&M.below t e.key).flatMap entL)/\Fm F0 w3 w5):=by intro hb;refine⟨k+1,vo,rfl,by omega,?_,g5⟩;rw[fin false hb,cond_false,List.append_nil];exact ho5
  simp only[RU,ab hw5,egq];cases hA:decide (0<=M.cmpB x.key f) with
  | false=>simp only[RU,e1];exact⟨no (by rw[hA];rfl),by simp only[cN];omega⟩
  | true=>
   simp only[RU,ab hw5];refine ay (by kernel_rfl) ?_;simp only[RU,List.nil_append,List.cons_append];refine cU2 func407 ?_;simp only[RU,ab hw25];rw[stl,stl,nf];apply HA (A:=λw'=>w'=w5/\M.below t x.key=true)
   ·intro H;unfold M.below at H no;cases hT:decide (t=[]) with
    | true=>simp only[RU];generalize hg:w5=w6;exact H _ ⟨hg.symm,by rw[hT];rfl⟩
    | false=>
     cases hB:decide (M.cmpB x.key t<0) with
     | true=>simp only[RU];generalize hg:w5=w6;exact H _ ⟨hg.symm,by rw[hT,hB];rfl⟩
     | false=>simp only[RU,e1];exact⟨no (by rw[hA,hT,hB];rfl),by simp only[cN];omega⟩
   ·rintro _ ⟨rfl,hb⟩;have z5:=g5.size;simp only[RU,aa (n:=3) hw5 rfl];refine dp E76 (by omega) 76 (cs:=entL x) rfl (by kernel_rfl) (by intro u hu;simp at hu;rcases hu with rfl|rfl|rfl<;>rfl) ho5 (by unfold maxLen;omega) (by omega) z5 ?_;intro vo' w6 ho6 _ hf6;simp only[RU,e1];refine⟨⟨k+1,vo',rfl,by omega,?_,Fm.own g5 hf6 (λy hy=>hy)⟩,by simp only[cN];omega⟩;rw[fin true (by rw[hA,hb];rfl),cond_true,List.length_append,List.flatMap_append];simpa using ho6
 ·obtain rfl:k=L.length:=by omega
  rw[List.take_length] at ho4;simp only[RU,decide_eq_false (show ¬((L.length:Nat):Int)<(L.length:Int) by omega),PB.c3 ((Fmf hf3 hf4).heap hw1 id),hl.right,show((0:Int) == 0)=true from rfl];exact⟨vo,rfl,aU ho4 (Fmf hF hf3).size,Fmf hF (Fmf hf3 hf4)⟩
end
open M (Tu tu dM fH)
section
variable{w w':World}{n0:Nat}{v u:Value}{p q:Pg}{s:Bs}{x:Option Tu}{t:Tu}
theorem cM{i:Int}(h:M.itemAt p i=some s):∃j:Nat,i=j/\p.items[j]?=some s/\j<p.items.length:=by unfold M.itemAt at h;obtain⟨_,h1,h⟩:=bind_some h;have h1:=of_decide_eq_true (ak h1);refine⟨i.toNat,by omega,h,?_⟩;obtain⟨hlt,_⟩:=List.getElem?_eq_some_iff.1 h;exact hlt
theorem sH(h:PgN w n0 v p)(hk:p.kind=2){i:Int}(hi:M.itemAt p i=some s)(hs:s.length<=1000000)(hx:M.tuAt s=some x):Cl prog 446 [.agg (pcs p v),iv i] w λr w'=>r=.tuple #[.agg (tuC (x.getD tu0)),.bool x.isSome]/\Fm F0 w w':=by obtain⟨j,rfl,hj,hlt⟩:=cM hi;refine cU2 func446 ?_;refine ae ?_;rintro b1 w1 rfl hs1 hw1 hf1;refine ae ?_;rintro b2 w2 rfl hs2 hw2 hf2;have hw1:=hf2.heap hw1 id;have hF:=Fmf hf1 hf2;obtain⟨ad,k1,_,k2⟩:=(h.it.keep hF iT).j4 (i:=j) (x:=stv s) (by rw[List.getElem?_map,hj];rfl) .i64;simp only[RU,PB.c1 hw1,hk,show((2:Int) != 2)=false from rfl,decide_eq_false (show ¬(j:Int)<0 by omega),PB.c5 hw1,h.it.lenV,decide_eq_false (show ¬(p.items.length:Int)<=(j:Int) by omega),k1,k2];refine(fG hs hx).mono ?_;rintro _ w3 ⟨rfl,hf3⟩;simp only[RU];refine aE λw4 hs4 hw4 hf4=>?_;have hf4:=Fmf hf3 hf4;simp only[RU,aa (n:=5) hw4 rfl];refine ao (hf4.heap hw2 id) λw5 hw5 hs5 hf5=>?_;simp only[RU,aa (n:=5) hw5 rfl];refine⟨?_,Fm.own (Fmf hF hf4) hf5 (by rintro y rfl;omega)⟩;cases x<;>rfl
theorem ue(h:PgN w n0 v p)(hk:p.kind=2){i:Int}(hi:M.itemAt p i=some s)(hs:s.length<=1000000)(hx:M.tuAt s=some x){key:Bs}(hkey:∀t,x=some t->t.key=key):Cl prog 430 [.agg (pcs p v),iv i,stv key] w λr w'=>r=.tuple #[.agg (tuC (x.getD tu0)),.bool x.isSome]/\Fm F0 w w':=by
 refine cU3 func430 ?_;refine ae ?_;rintro b1 w1 rfl hs1 hw1 hf1;refine ae ?_;rintro b2 w2 rfl hs2 hw2 hf2;have hF:=Fmf hf1 hf2;simp only[RU,PB.all (hf2.heap hw1 id)];refine(sH (h.keep hF) hk hi hs hx).mono ?_;rintro _ w3 ⟨rfl,hf3⟩;simp only[RU];refine aE λw4 hs4 hw4 hf4=>?_;have hf4:=Fmf hf3 hf4;cases x with
 | none=>simp only[RU,Option.isSome_none];refine bst (tuC tu0) (ao (hf4.heap hw2 id) λw5 hw5 hs5 hf5=>?_);simp only[RU,aa (n:=5) hw5 rfl];exact⟨rfl,Fm.own (Fmf hF hf4) hf5 (by rintro y rfl;omega)⟩
 | some t=>simp only[RU,Option.isSome_some,ab hw4,Option.getD_some,hkey t rfl,gQ,decide_true,aa (n:=5) hw4 rfl];refine ao (hf4.heap hw2 id) λw5 hw5 hs5 hf5=>?_;simp only[RU,aa (n:=5) hw5 rfl];exact Fm.own (Fmf hF hf4) hf5 (by rintro y rfl;omega)
theorem pS(h:PgN w n0 v p){n:Nat}(hn:M.slotOf p=some n):Cl prog 313 [.agg (pcs p v)] w λr w'=>r=iv (p.items.length:Nat)/\Fm F0 w w':=by
 unfold M.slotOf at hn;obtain⟨_,hn,_⟩:=bind_some hn;have hn:=List.all_eq_true.1 (ak hn);have hi:=h.ins;refine cU1 func313 ?_;refine ae ?_;rintro b1 w1 rfl hs1 hw1 hf1;refine⟨λw'=>w'=w1.drew,rfl,?_⟩;simp only[RU];refine rdP (u:=v) (λw' hw=>by rw[hw,bF];exact PB.c5 hw1) ?_;refine cU0 func284 ?_;refine cU2 func378 ?_ (V [(2,[8])]);simp only[RU,h.it.lenV];refine⟨λvs w3=>∃i:Nat,vs=[iv i]/\i<=p.items.length/\w3=w1.drew,λvs _=>(p.items.length - nth vs 0).toNat,⟨0,rfl,by omega,rfl⟩,?_⟩;rintro w3 v1 ⟨i,hvs,hil,rfl⟩;cases hvs;by_cases hl:i<p.items.length
 ·have hx:p.items[i]?=some p.items[i]:=List.getElem?_eq_getElem hl;have hne:=hn p.items[i] (List.getElem_mem hl);generalize p.items[i]=s at hx hne;obtain⟨ad,k1,_,k2⟩:=(h.it.keep (Fmf hf1 (Fm.drew F0 w1)) iT).j4 (i:=i) (x:=stv s) (by rw[List.getElem?_map,hx];rfl) .i64;rw[bF] at k2;simp only[RU,decide_eq_true (show(i:Int)<(p.items.length:Int) by omega),k1,k2,show decide (([]:Bs)=s)=false from decide_eq_false λh=>by subst h;simp at hne,show IntKind.i64.wrap ((i:Int)+1)=((i+1:Nat):Int) by rw[af]<;>omega];exact⟨⟨i+1,rfl,by omega,trivial⟩,by simp only[ba];omega⟩
 ·simp only[RU,decide_eq_false (show ¬(i:Int)<(p.items.length:Int) by omega),show decide ((0:Int)<=-1)=false from rfl,PB.c5 hw1,h.it.lenV];exact Fmf hf1 (Fm.drew F0 w1)
theorem lq{n:Nat}(hn:M.slotOf p=some n):n=p.items.length:=by unfold M.slotOf at hn;obtain⟨_,_,hn⟩:=bind_some hn;exact(Option.some.inj hn).symm
theorem mf(h:PgN w n0 v p)(hs:s.length<=1000000)(hq:M.heapPut p s=some q):Cl prog 315 [.agg (pcs p v),iv (p.items.length:Nat),stv s] w λr w'=>∃u,r=.tuple #[.agg (pcs q u),iv 0]/\PgN w' w.heap.size u q/\Fm F0 w w':=by
 unfold M.heapPut M.fitsP at hq;obtain⟨_,hfit,hq⟩:=bind_some hq;have e:p.items++[s]=M.putIt p.items p.items.length s:=by simp[M.putIt]
 replace hq:wi p (M.putIt p.items p.items.length s)=q:=by rw[<- e];exact Option.some.inj hq
 have hfit:eW (wi p (M.putIt p.items p.items.length s))=true:=by rw[<- e];exact ak hfit
 refine cU3 func315 ?_;refine ae ?_;rintro b1 w1 rfl hs1 hw1 hf1;refine ae ?_;rintro b2 w2 rfl hs2 hw2 hf2;have hw1:=hf2.heap hw1 id;have hF:=Fmf hf1 hf2;simp only[RU,PB.c5 hw1,h.it.lenV,beq_self_eq_true,PB.all hw1];have hp:=kX (h.keep hF) (Nat.le_refl _) hs hfit;rw[hq] at hp;refine hp.mono ?_;rintro _ w3 ⟨u,rfl,hN,hf3⟩;simp only[RU];refine ao (hf3.heap hw2 id) (λw4 hw4 hs4 hf4=>?_) rfl rfl (lM _ hN.one);simp only[RU,aa (n:=6) hw4 rfl];exact⟨u,rfl,(hN.dO hf4 (by rintro y rfl;omega)).base hF.size,Fm.own (Fmf hF hf3) hf4 (by rintro y rfl;omega)⟩
theorem ud(h:PgN w n0 v p)(hs:s.length<=1000000){j:Nat}(hj:j<p.items.length)(hq:M.heapWith p j s=some q):Cl prog 315 [.agg (pcs p v),iv j,stv s] w λr w'=>∃u,r=.tuple #[.agg (pcs q u),iv 0]/\PgN w' w.heap.size u q/\Fm F0 w w':=by
 unfold M.heapWith M.fitsP at hq;obtain⟨_,hfit,hq⟩:=bind_some hq
 replace hq:wi p (p.items.set j s)=q:=Option.some.inj hq
 have hfit:eW (wi p (p.items.set j s))=true:=ak hfit;refine cU3 func315 ?_;refine ae ?_;rintro b1 w1 rfl hs1 hw1 hf1;refine ae ?_;rintro b2 w2 rfl hs2 hw2 hf2;have hw1:=hf2.heap hw1 id;have hF:=Fmf hf1 hf2;simp only[RU,PB.c5 hw1,h.it.lenV,aV,decide_eq_false (show ¬(j:Int)=(p.items.length:Int) by omega),PB.all hw1];have hp:=ja (h.keep hF) hj hs hfit;rw[hq] at hp;refine hp.mono ?_;rintro _ w3 ⟨u,rfl,hN,hf3⟩;simp only[RU];refine ao (hf3.heap hw2 id) (λw4 hw4 hs4 hf4=>?_) rfl rfl (lM _ hN.one);simp only[RU,aa (n:=6) hw4 rfl];exact⟨u,rfl,(hN.dO hf4 (by rintro y rfl;omega)).base hF.size,Fm.own (Fmf hF hf3) hf4 (by rintro y rfl;omega)⟩
theorem xm(h:PgN w n0 v p)(hk:p.kind=2){n:Nat}(hn:M.slotOf p=some n){t:Tu}(ht:tu t=true)(hq:M.heapPut p (dM t)=some q)(hl:(dM t).length<=1000000)(pg:Int):Cl prog 359 [.agg (pcs p v),iv pg,.agg (tuC t)] w λr w'=>r=.tuple #[.agg (rcs { M.rec0 with kind:=1,xid:=t.xmin,page:=pg,slot:=n,data:=dM t } nl nl nl nl nl),iv 0]/\Fm F0 w w':=by obtain rfl:=lq hn;refine cU3 func359 ?_;refine ae ?_;rintro b1 w1 rfl hs1 hw1 hf1;refine ae ?_;rintro b2 w2 rfl hs2 hw2 hf2;refine ae ?_;rintro b3 w3 rfl hs3 hw3 hf3;have hw1:=hf3.heap (hf2.heap hw1 id) id;have hw2:=hf3.heap hw2 id;have hF:=Fmf hf1 (Fmf hf2 hf3);simp only[RU,PB.c1 hw1,hk,show((2:Int) != 2)=false from rfl,aa (n:=5) hw2 rfl];refine(iC ht).mono ?_;rintro _ w4 ⟨rfl,hf4⟩;simp only[RU,show((0:Int) != 0)=false from rfl,PB.all (hf4.heap hw1 id)];refine(pS (h.keep (Fmf hF hf4)) hn).mono ?_;rintro _ w5 ⟨rfl,hf5⟩;have hf5:=Fmf hf4 hf5;simp only[RU,PB.all (hf5.heap hw1 id)];refine(mf (h.keep (Fmf hF hf5)) hl hq).mono ?_;rintro _ w6 ⟨u,rfl,hN,hf6⟩;simp only[RU];refine aE (λw7 hs7 hw7 hf7=>?_) rfl rfl (lM _ hN.one);have hf7:=Fmf hf5 (Fmf hf6 hf7);simp only[RU,show((0:Int) != 0)=false from rfl,ab (hf7.heap hw2 id)];refine bst (rcs { M.rec0 with kind:=1,xid:=t.xmin,page:=pg,slot:=(p.items.length:Nat),data:=dM t } nl nl nl nl nl) (ao (hf7.heap hw3 id) λw8 hw8 hs8 hf8=>?_);simp only[RU,aa (n:=16) hw8 rfl];exact Fm.own (Fmf hF hf7) hf8 (by rintro y rfl;omega)
theorem ly{t:Tu}(ht:tu t=true):(dM t).length<=1000000:=by unfold tu at ht;rw[Bool.and_eq_true,decide_eq_true_eq] at ht;have hk:=keyOk_iff.1 ht.2;have e1:=bM 1 1;have e2:=bM t.xmin 2;have e3:=bM t.xmax 2;have e4:=aK (n:=t.key.length) (by omega);have e5:=aK (n:=t.val.length) (by omega);simp only[dM,iM,List.length_append];omega
theorem iH(h:fH s=some t):M.tuAt s=some (some t):=by
 unfold M.tuAt;rw[h];unfold fH at h;cases hl:decide (s.length<5) with
 | false=>rfl
 | true=>rw[show decide (5<=s.length)=false by simp at *;omega] at h;cases h
theorem uf{t:Tu}(h:PgN w n0 v p)(hk:p.kind=2){i:Int}(hi:M.itemAt p i=some s)(hs:s.length<=1000000)(hx:fH s=some t){own:Int}(h1:1<=own)(hne:own≠t.xmax)(ht:tu { t with xmax:=own }=true)(hq:M.heapWith p i.toNat (dM { t with xmax:=own })=some q)(pg:Int):
  Cl prog 433 [.agg (pcs p v),iv pg,iv i,iv own] w λr w'=>r=.tuple #[.agg (rcs { M.rec0 with kind:=2,xid:=own,page:=pg,slot:=i,old:=t.xmax,new:=own } nl nl nl nl nl),iv 0]/\Fm F0 w w':=by
 refine cU4 func433 ?_;refine ae ?_;rintro b1 w1 rfl hs1 hw1 hf1;refine ae ?_;rintro b2 w2 rfl hs2 hw2 hf2;have hw1:=hf2.heap hw1 id;have hF:=Fmf hf1 hf2;simp only[RU,PB.all hw1];refine(sH (h.keep hF) hk hi hs (iH hx)).mono ?_;rintro _ w3 ⟨rfl,hf3⟩;simp only[RU];refine aE λw4 hs4 hw4 hf4=>?_;have z3:=hf3.size;have hf4:=Fmf hf3 hf4;simp only[RU,Option.isSome_some,decide_eq_false (show ¬own<1 by omega),ab hw4,Option.getD_some,aV,decide_eq_false hne];refine bst (rcs { M.rec0 with kind:=2,xid:=own,page:=pg,slot:=i,old:=t.xmax,new:=own } nl nl nl nl nl) (aE λw5 hs5 hw5 hf5=>?_);simp only[RU];refine au (hf5.heap hw4 id) (j:=1) (show 1<5 by decide) rfl λw6 hw6 hs6 hf6=>?_
 replace hw6:w6.heap[w3.heap.size]?=some (.cells (tuC { t with xmax:=own }) 302):=hw6
 have hw5:=hf6.heap hw5 (show ¬_=_ by omega);have hf6:=Fm.own (Fmf hf4 hf5) hf6 (by rintro y rfl;omega);simp only[RU,aa (n:=5) hw6 rfl];refine(iC ht).mono ?_;rintro _ w7 ⟨rfl,hf7⟩;have hw5:=hf7.heap hw5 id;have hf7:=Fmf hf6 hf7;simp only[RU,show((0:Int) != 0)=false from rfl,PB.all (hf7.heap hw1 id)];obtain⟨j,rfl,hj,hlt⟩:=cM hi;rw[Int.toNat_natCast] at hq;refine(ud (h.keep (Fmf hF hf7)) (ly ht) hlt hq).mono ?_;rintro _ w8 ⟨u,rfl,hN,hf8⟩;simp only[RU];refine aE (λw9 hs9 hw9 hf9=>?_) rfl rfl (lM _ hN.one);have hf89:=Fmf hf8 hf9;have hf9:=Fmf hf7 hf89;simp only[RU,show((0:Int) != 0)=false from rfl,aa (n:=16) (hf89.heap hw5 id) rfl];refine ao (hf9.heap hw2 id) λw10 hw10 hs10 hf10=>?_;simp only[RU,aa (n:=16) hw10 rfl];exact Fm.own (Fmf hF hf9) hf10 (by rintro y rfl;omega)
theorem pN(b:UInt8)(n:Nat)(hn:n<=140737488355328):Cl prog 63 [stv [b],iv n] w λv w'=>v=stv (List.replicate n b)/\Fm F0 w w':=by
 have c:Calls prog 63 #[stv [b],iv n] w λe w'=>e=.returned (.string ⟨(Lib.repeatL (str [b]).data.toList n).toArray⟩)/\Go.RowKit.Below w.heap.size w w':=Any.strings_Repeat (ρ:=lays105_ren) lays105 bldExtra (str [b]) n w (by omega) (by rw[aq];simpa using hn);have e:Lib.repeatL (str [b]).data.toList n=List.replicate n b:=by have:=Lib.repeatL_replicate b 1 n;rw[Nat.mul_one] at this;exact this
 rw[e] at c;exact fa c λe w' ⟨h1,h2⟩=>⟨_,h1,rfl,Fm.iN h2 _⟩
theorem ug(h:PgN w n0 v p)(hk:p.kind=2){n:Int}(hn:M.roomOf p=some n):Cl prog 241 [.agg (pcs p v)] w λr w'=>r=iv n/\Fm F0 w w':=by
 unfold M.roomOf at hn;obtain⟨m,hm,hn⟩:=bind_some hn;obtain⟨_,hc,hn⟩:=bind_some hn;cases hn;have hc:=ak hc;rw[Bool.and_eq_true,decide_eq_true_eq,decide_eq_true_eq] at hc;obtain rfl:=lq hm;refine cU1 func241 ?_ (V []) (J [(9,[4]),(10,[6])]);refine ae ?_;rintro b1 w1 rfl hs1 hw1 hf1;simp only[RU,PB.c1 hw1,hk,show((2:Int) != 2)=false from rfl,PB.c5 hw1,h.it.lenV,decide_eq_false (show ¬(255:Int)<(p.items.length:Int) by omega),PB.all hw1];refine(pS (h.keep hf1) hm).mono ?_;rintro _ w2 ⟨rfl,hf2⟩;simp only[RU,PB.all (hf2.heap hw1 id)];refine(ln (h.keep (Fmf hf1 hf2)).as).mono ?_;rintro _ w3 ⟨rfl,hf3⟩;have hf3:=Fmf hf2 hf3;have hw3:=hf3.heap hw1 id;simp only[RU,jn1,show IntKind.i64.wrap (bt p:Int)=bt p by rw[af];omega,PB.c5 hw3,h.it.lenV,beq_self_eq_true,PB.all hw3];refine(uE (h.keep (Fmf hf1 hf3)) hc.1 hc.2).mono ?_;rintro _ w4 ⟨rfl,hf4⟩;simp only[RU,decide_eq_false (show ¬((510 - bt p:Nat):Int)<0 by omega)];have hq:M.heapPut p (List.replicate (510 - bt p) 120)=some (wi p (p.items++[List.replicate (510 - bt p) 120])):=by
  have:eW (wi p (p.items++[List.replicate (510 - bt p) 120]))=true:=by unfold eW wi bt;simp only[List.foldl_append,List.foldl_cons,List.foldl_nil,List.length_append,List.length_cons,List.length_nil,List.length_replicate,Bool.and_eq_true,decide_eq_true_eq];have:bt p=p.items.foldl (λn it=>n+(2+it.length)) (20+p.high.length):=rfl;omega
  unfold M.heapPut M.fitsP M.gd;rw[show eW { p with items:=p.items++[List.replicate (510 - bt p) 120] }=true from this]
  rfl
 have hr:(List.replicate (510 - bt p) (120:UInt8)).length<=1000000:=by rw[List.length_replicate];omega
 have em:max (0:Int) ((510 - bt p:Nat):Int)=((510 - bt p:Nat):Int):=by omega
 have hF4:=Fmf hf3 hf4;have hfd:=Fmf hF4 (Fm.drew F0 w4);have fin:∀w6,Fm F0 w1 w6->Cl prog 315 [.agg (pcs p v),iv (p.items.length:Nat),stv (List.replicate (510 - bt p) 120)] w6 λr w'=>∃q u,r=.tuple #[.agg (pcs q u),iv 0]/\u.oneCell'=true/\Fm F0 w6 w':=λw6 hf=>(mf (h.keep (Fmf hf1 hf)) hr hq).mono (by rintro _ w7 ⟨u,rfl,hN,hf7⟩;exact⟨_,u,rfl,hN.one,hf7⟩);refine⟨λw'=>Fm F0 w1 w',hfd,rdP (λw' hf=>PB.all (hf.heap hw1 id)) ?_⟩;simp only[RU,mx2,em];refine⟨(pN 120 _ (by omega)).mono ?_,ae ?_,trivial⟩
 ·rintro _ w5 ⟨rfl,hf5⟩;have hf5:=Fmf hfd hf5;refine⟨hf5,(fin w5 hf5).mono ?_,ae ?_,trivial⟩
  ·rintro _ w6 ⟨q,u,rfl,hu,hf6⟩;simp only[RU];refine aE (λw7 hs7 hw7 hf7=>?_) rfl rfl (lM _ hu);simp only[RU,show((0:Int) != 0)=false from rfl,mx2,em];exact Fmf (Fmf hf1 hf5) (Fmf hf6 hf7)
  ·rintro b6 w6 rfl hs6 hw6 hf6;have hf6:=Fmf hf5 hf6;refine⟨hf6,(fin w6 hf6).mono ?_⟩;rintro _ w7 ⟨q,u,rfl,hu,hf7⟩;simp only[RU];refine ao (hf7.heap hw6 id) (λw8 hw8 hs8 hf8=>?_) rfl rfl (lM _ hu);simp only[RU,show((0:Int) != 0)=false from rfl,mx2,em];have:=hf5.size;exact Fm.own (Fmf (Fmf hf1 hf6) hf7) hf8 (by rintro y rfl;omega)
 ·rintro b5 w5 rfl hs5 hw5 hf5;rw[aL] at hw5;have hf5:=Fmf hfd hf5;refine⟨hf5,(pN 120 _ (by omega)).mono ?_⟩;rintro _ w6 ⟨rfl,hf6⟩;have hw6:=hf6.heap hw5 id;have hf6:=Fmf hf5 hf6;refine⟨hf6,(fin w6 hf6).mono ?_⟩;rintro _ w7 ⟨q,u,rfl,hu,hf7⟩;simp only[RU];refine ao (hf7.heap hw6 id) (λw8 hw8 hs8 hf8=>?_) rfl rfl (lM _ hu);simp only[RU,show((0:Int) != 0)=false from rfl,mx2,em];have:=hF4.size;exact Fm.own (Fmf (Fmf hf1 hf6) hf7) hf8 (by rintro y rfl;omega)
end
open M (idOk xAdd xGap xBefore)
structure Mo (m : Int) : Prop where
 lo : 16 ≤ m
 hi : m ≤ 1024
 ev : m % 2 = 0
theorem xM(n:Int){m:Int}(hm:0<m):0<=n % m/\n % m<m:=⟨Int.emod_nonneg n (by omega),Int.emod_lt_of_pos n hm⟩
section
variable{w:World}{m:Int}
theorem pr(hm:Mo m):Cl prog 263 [iv m] w λv w'=>v=.bool true/\w'=w:=by
 obtain⟨h1,h2,h3⟩:=hm;refine cU1 func263 ?_;have e1:decide (16<=m)=true:=by simpa using h1
 have e2:decide (m<=1024)=true:=by simpa using h2
 obtain⟨n,rfl⟩:=Int.eq_ofNat_of_zero_le (show 0<=m by omega);have e3:vH .i64 (n:Int) 1=0:=by rw[show(1:Int)=((1:Nat):Int) from rfl,vJ n 1 (by omega) (by omega),Nat.and_one_is_mod];omega
 simp only[RU,e1,e2,fL,e3,beq_self_eq_true,and_self]
theorem nz(hm:Mo m){v:Value}{l:List Int}(hl:CellsAt w v l.length 1 (l.map iv)):Cl prog 177 [iv m,v] w λr w'=>r=.bool (l.all (idOk m))/\w'=w:=by
 have hlt:=hl.lt;unfold maxLen at hlt;refine cU2 func177 ?_ (V [(2,[9])]);simp only[RU,hl.lenV];refine⟨λvs w2=>∃k:Nat,vs=[iv k]/\k<=l.length/\l.all (idOk m)=(l.drop k).all (idOk m)/\w2=w,λvs _=>(l.length - nth vs 0).toNat,⟨0,rfl,by omega,rfl,rfl⟩,?_⟩;rintro w2 ik ⟨k,hvs,hk,hall,rfl⟩;cases hvs;by_cases hlt2:k<l.length
 ·have e1:decide ((k:Int)<(l.length:Int))=true:=by rw[decide_eq_true_eq];omega
  have e2:IntKind.i64.wrap ((k:Int)+1)=((k+1:Nat):Int):=by rw[af]<;>omega
  have hx:l[k]?=some l[k]:=List.getElem?_eq_getElem hlt2;rw[List.drop_eq_getElem_cons hlt2,List.all_cons] at hall;generalize l[k]=x at hx hall;obtain⟨ad,hix,_,hc⟩:=hl.j4 (i:=k) (x:=iv x) (by rw[List.getElem?_map,hx];rfl) .i64;simp only[RU,e1,hix,hc];by_cases h1:x<1
  ·simp only[RU,decide_eq_true h1];exact⟨by rw[hall,show idOk m x=false from decide_eq_false (by omega)];rfl,trivial⟩
  ·by_cases h2:m<x
   ·simp only[RU,decide_eq_false h1,decide_eq_true h2];exact⟨by rw[hall,show idOk m x=false from decide_eq_false (by omega)];rfl,trivial⟩
   ·rw[show idOk m x=true from decide_eq_true (by omega),Bool.true_and] at hall;simp only[RU,decide_eq_false h1,decide_eq_false h2,e2];exact⟨⟨k+1,rfl,by omega,hall,trivial⟩,by simp only[ba];omega⟩
 ·have e1:decide ((k:Int)<(l.length:Int))=false:=by rw[decide_eq_false_iff_not];omega
  rw[List.drop_of_length_le (by omega)] at hall;simp only[RU,e1];exact(pr hm).mono (by rintro _ _ ⟨rfl,rfl⟩;exact⟨by rw[hall];rfl,rfl⟩)
theorem lf(hm:Mo m)(n:Int):Cl prog 217 [iv m,iv n] w λr w'=>r=iv (n % m)/\w'=w:=by
 obtain⟨h1,h2,_⟩:=hm;refine cU2 func217 ?_;have b1:=Int.tmod_lt_of_pos n (show 0<m by omega);have b2:=Int.lt_tmod_of_pos n (show 0<m by omega);have e4:(n.tmod m+m).tmod m=n % m:=by rw[Int.tmod_eq_emod_of_nonneg (by omega),Int.add_emod_right,Int.tmod_def,Int.sub_mul_emod_self_left]
 simp only[RU,jI _ (a:=n) (show 0<m by omega),show IntKind.i64.wrap (n.tmod m+m)=n.tmod m+m from af (by omega),jI _ (a:=n.tmod m+m) (show 0<m by omega),e4,and_self]
theorem jy(hm:Mo m)(x n:Int):Cl prog 126 [iv m,iv x,iv n] w λr w'=>r=iv (xAdd m x n)/\Fm F0 w w':=by
 refine cU3 func126 ?_;refine bsl 1 #[iv x] 3 ?_;refine(nz hm (l:=[x]) (ig [x] (by simp) w 3)).mono ?_;rintro _ _ ⟨rfl,rfl⟩;have hf:=Fm.alloc F0 w (.cells ([x].map iv).toArray 3);generalize w.alloc (.cells ([x].map iv).toArray 3)=w1 at hf;unfold xAdd;rw[List.all_cons,List.all_nil,Bool.and_true];cases h:idOk m x with
 | false=>simp only[RU];exact⟨rfl,hf⟩
 | true=>have:=hm.hi;have:=hm.lo;unfold idOk at h;rw[decide_eq_true_eq] at h;simp only[RU,show IntKind.i64.wrap (x - 1)=x - 1 from af (by omega)];refine(lf hm n).mono ?_;rintro _ _ ⟨rfl,rfl⟩;have:=xM n (show 0<m by omega);simp only[RU,show IntKind.i64.wrap (x - 1+n % m)=x - 1+n % m from af (by omega)];refine(lf hm _).mono ?_;rintro _ _ ⟨rfl,rfl⟩;have:=xM (x - 1+n % m) (show 0<m by omega);simp only[RU,show IntKind.i64.wrap ((x - 1+n % m) % m+1)=(x - 1+n % m) % m+1 from af (by omega)];exact⟨rfl,hf⟩
theorem nt(hm:Mo m)(a b:Int):Cl prog 178 [iv m,iv a,iv b] w λr w'=>r=iv (xGap m a b)/\Fm F0 w w':=by
 refine cU3 func178 ?_;refine bsl 2 #[iv a,iv b] 3 ?_;refine(nz hm (l:=[a,b]) (ig [a,b] (by simp) w 3)).mono ?_;rintro _ _ ⟨rfl,rfl⟩;have hf:=Fm.alloc F0 w (.cells ([a,b].map iv).toArray 3);generalize w.alloc (.cells ([a,b].map iv).toArray 3)=w1 at hf;unfold xGap;rw[List.all_cons,List.all_cons,List.all_nil,Bool.and_true];cases h:idOk m a&&idOk m b with
 | false=>simp only[RU];exact⟨rfl,hf⟩
 | true=>have:=hm.hi;unfold idOk at h;simp only[Bool.and_eq_true,decide_eq_true_eq] at h;simp only[RU,show IntKind.i64.wrap (b - a)=b - a from af (by omega)];exact(lf hm _).mono (by rintro _ _ ⟨rfl,rfl⟩;exact⟨rfl,hf⟩)
theorem DH(hm:Mo m)(a b:Int):0<=xGap m a b/\xGap m a b<1024:=by have:=xM (b - a) (show 0<m by have:=hm.lo;omega);have:=hm.hi;unfold xGap;cases idOk m a&&idOk m b<;>simp<;>omega
theorem jV(hm:Mo m)(a b:Int):Cl prog 105 [iv m,iv a,iv b] w λr w'=>r=.bool (xBefore m a b)/\Fm F0 w w':=by
 have:=hm.hi;have:=hm.lo;refine cU3 func105 ?_;refine(nt hm a b).mono ?_;rintro _ w1 ⟨rfl,hf⟩;unfold xBefore;cases h:decide (0<xGap m a b) with
 | false=>simp only[RU,h];exact⟨rfl,hf⟩
 | true=>simp only[RU,h,jb _ (a:=m) (b:=2) (by omega) (by decide) (by omega)];exact⟨rfl,hf⟩
end
open M (idOk xAdd Fp it0 it1 plN oQ)
structure StOk (m : Int) (p : Pg) : Prop where
 kind : p.kind = 1
 lsn : 0 ≤ p.lsn
 level : p.level = 0
 right : p.right = 0
 high : p.high = []
 items : p.items = [it0 p, it1 p]
 len : ((it1 p).length : Int) = m / 4
 m4 : m % 4 = 0
 num : rdNum m (it0 p) 0 = (1, [], 0)
theorem pY{m:Int}{p:Pg}(h:Fp m p=true):StOk m p:=by
 unfold Fp at h;simp only[Bool.and_eq_true,decide_eq_true_eq] at h;obtain⟨⟨⟨h1,h2,h3,h4,h5,h6,h7⟩,h8⟩,h9⟩:=h;refine⟨h1,h2,h3,h4,h8,?_,h6,h7,h9⟩;unfold it0 it1
 match hi:p.items,h5 with
 | [a,b],_=>rfl
section
variable{w w':World}{n0:Nat}{v u:Value}{p q:Pg}{m x:Int}
theorem mh(hm:Mo m):Cl prog 154 [iv m] w λv w'=>v=.bool true/\Fm F0 w w':=by
 have:=hm.lo;have:=hm.hi;refine cU1 func154 ?_;refine(jy hm 1 0).mono ?_;rintro _ w1 ⟨rfl,hf⟩;have e:xAdd m 1 0=1:=by unfold xAdd idOk;rw[decide_eq_true (by omega)];simp
 simp only[RU,e,beq_self_eq_true];exact hf
theorem kE(hm:Mo m)(hx:idOk m x=true):Cl prog 155 [iv m,iv x] w λv w'=>v=.bool true/\Fm F0 w w':=by
 have:=hm.lo;have h:=hx;unfold idOk at h;rw[decide_eq_true_eq] at h;refine cU2 func155 ?_;refine(jy hm x 0).mono ?_;rintro _ w1 ⟨rfl,hf⟩;have e:xAdd m x 0=x:=by unfold xAdd;rw[hx,cond_true,Int.zero_emod,Int.add_zero,Int.emod_eq_of_lt (by omega) (by omega)];omega
 simp only[RU,e,beq_self_eq_true,aG,decide_eq_false (show ¬x=0 by omega),Bool.not_false];exact hf
theorem lU(hm:Mo m)(h4:m % 4=0):Cl prog 157 [iv m] w λv w'=>v=iv (m / 4)/\w'=w:=by have:=hm.lo;have:=hm.hi;refine cU1 func157 ?_;simp only[RU,show IntKind.i64.wrap (m+4)=m+4 from af (by omega),show IntKind.i64.wrap (m+4 - 1)=m+3 by rw[af]<;>omega,jb _ (a:=m+3) (b:=4) (by omega) (by decide) (by omega)];exact⟨by congr 1;omega,trivial⟩
theorem lR(h:PgN w n0 v p)(hm:Mo m)(hs:StOk m p)(hl0:(it0 p).length<=1000000):Cl prog 401 [iv m,.agg (pcs p v)] w λr w'=>∃g cap,r=.tuple #[iv 1,.slice (some ⟨g,0,none⟩) (it1 p).length cap,iv 0]/\w.heap.size<=g/\BX w' g 5 (it1 p)/\Fm F0 w w':=by
 have:=hm.hi;have:=hm.lo;have hl1:=hs.len;have h2:p.items.length=2:=by rw[hs.items];rfl
 refine cU2 func401 ?_;refine ae ?_;rintro b1 w1 rfl hs1 hw1 hf1;refine(mh hm).mono ?_;rintro _ w2 ⟨rfl,hf2⟩;have hF:=Fmf hf1 hf2;have hw1:=hf2.heap hw1 id;obtain⟨a1,i1,_,c1⟩:=(h.it.keep hF iT).j4 (i:=1) (x:=stv (it1 p)) (by rw[hs.items];rfl) .i64
 replace i1:ixV 1 v (iv 1)=_:=i1
 obtain⟨a0,i0,_,c0⟩:=(h.it.keep hF iT).j4 (i:=0) (x:=stv (it0 p)) (by rw[hs.items];rfl) .i64
 replace i0:ixV 1 v (iv 0)=_:=i0
 simp only[RU];refine⟨λw'=>Fm F0 w2 w',Fm.drew F0 w2,?_⟩;simp only[RU,PB.c1 hw1,hs.kind,show((1:Int) != 1)=false from rfl,PB.c0 hw1,decide_eq_false (show ¬p.lsn<0 by have:=hs.lsn;omega),PB.c2 hw1,hs.level,show((0:Int) != 0)=false from rfl,PB.c3 hw1,hs.right,PB.c4 hw1,hs.high,gQ,decide_true,PB.c5 hw1,h.it.lenV,h2,show(((2:Nat):Int) != 2)=false from rfl];refine rdP (u:=v) (λw' hw=>PB.c5 (hw.heap hw1 id)) ?_;simp only[RU,i1];refine⟨stv (it1 p),λw' hw=>?_,?_⟩
 ·obtain⟨b1,j1,_,d1⟩:=((h.it.keep hF iT).keep hw iT).j4 (i:=1) (x:=stv (it1 p)) (by rw[hs.items];rfl) .i64
  replace j1:ixV 1 v (iv 1)=_:=j1
  rw[i1] at j1;cases j1;simp only[RU,d1,and_self]
 simp only[RU];refine(lU hm hs.m4).mono ?_;rintro _ _ ⟨rfl,rfl⟩;have e1:((((it1 p).length:Nat):Int) != m / 4)=false:=by rw[aG,Bool.not_eq_false',decide_eq_true_eq];exact hl1
 simp only[RU,e1,PB.c5 hw1,i0,c0];refine⟨Fm.drew F0 w2,(fM _ _).mono ?_⟩;rintro _ w3 ⟨r,rfl,hr,hR,hf3⟩;have hf3:=Fmf (Fm.drew F0 w2) hf3;refine(dA (st:=(it0 p,0)) hR hl0 (by omega)).mono ?_;rintro _ w4 ⟨rfl,hR,hf4⟩;rw[show rn m (it0 p,0)=(1,[],0) from hs.num] at hR ⊢;have hf4:=Fm.own hf3 hf4 (by rintro y rfl;rw[aL] at hr;exact hr);obtain⟨a2,i2,_,c2⟩:=((h.it.keep hF iT).keep hf4 iT).j4 (i:=1) (x:=stv (it1 p)) (by rw[hs.items];rfl) .i64
 replace i2:ixV 1 v (iv 1)=_:=i2
 simp only[RU,PB.c5 (hf4.heap hw1 id),i2,c2];obtain⟨cap,w5,hcv,hB,hf5,hs5⟩:=tP B38 w4 (it1 p);refine ag hcv ?_;refine(gP (hf5.heap hR id)).mono ?_;rintro _ _ ⟨rfl,rfl⟩;have h4:=hs.m4;simp only[RU,show vy [] 0=0 from rfl,show((0:Int) != 0)=false from rfl,show((1:Int) == 0)=false from rfl,nL (TypeDesc.int .i64) (a:=m) (b:=4) (by omega) (by decide) (by omega),h4];exact⟨_,_,rfl,by have:=(Fmf hF hf4).size;omega,hB,Fmf (Fmf hF hf4) hf5⟩
theorem mz(hm:Mo m)(hx:idOk m x=true):Cl prog 402 [iv x] w λv w'=>v=.tuple #[iv (plN x / 4:Nat),iv (oQ x:Nat)]/\w'=w:=by have:=hm.hi;unfold idOk at hx;rw[decide_eq_true_eq] at hx;refine cU1 func402 ?_;simp only[RU,show IntKind.i64.wrap (x - 1)=x - 1 from af (by omega),jb _ (a:=x - 1) (b:=4) (by omega) (by decide) (by omega),nL (TypeDesc.int .i64) (a:=x - 1) (b:=4) (by omega) (by decide) (by omega),show IntKind.i64.wrap (2*((x - 1) % 4))=2*((x - 1) % 4) by rw[af]<;>omega];unfold oQ plN;rw[show(((x - 1).toNat / 4:Nat):Int)=(x - 1) / 4 by omega,show((2*((x - 1).toNat % 4):Nat):Int)=2*((x - 1) % 4) by omega];exact⟨rfl,trivial⟩
theorem idx{p:Pg}(hs:StOk m p)(hx:idOk m x=true):plN x / 4<(it1 p).length:=by unfold idOk at hx;rw[decide_eq_true_eq] at hx;have:=hs.len;have:=hs.m4;unfold plN;omega
theorem wF(h:PgN w n0 v p)(hm:Mo m)(hl0:(it0 p).length<=1000000){s:Int}(hg:M.clogGet m p x=some s):Cl prog 348 [iv m,.agg (pcs p v),iv x] w λr w'=>r=.tuple #[.int .u8 s,iv 0]/\Fm F0 w w':=by unfold M.clogGet at hg;obtain⟨_,hc,he⟩:=bind_some hg;cases he;have hg:=ak hc;rw[Bool.and_eq_true] at hg;obtain⟨hs,hx⟩:=hg;have hs:=pY hs;refine cU3 func348 ?_;refine ae ?_;rintro b1 w1 rfl hs1 hw1 hf1;simp only[RU,PB.all hw1];refine(lR (h.keep hf1) hm hs hl0).mono ?_;rintro _ w2 ⟨g,cap,rfl,hg,hB,hf2⟩;simp only[RU,show((0:Int) != 0)=false from rfl];refine(kE hm hx).mono ?_;rintro _ w3 ⟨rfl,hf3⟩;simp only[RU];refine(mz hm hx).mono ?_;rintro _ _ ⟨rfl,rfl⟩;have hB:=hB.keep hf3 id;have hlt:=idx hs hx;have e:=hB.cell (i:=plN x / 4) (b:=(it1 p).getD (plN x / 4) 0) (by rw[List.getD_eq_getElem?_getD,List.getElem?_eq_getElem hlt];rfl);simp only[RU,dU hlt,Nat.mul_one,e,jz,shV,if_neg (show ¬((oQ x:Nat):Int)<0 by omega),Int.toNat_natCast,fL];exact⟨rfl,Fmf hf1 (Fmf hf2 hf3)⟩
theorem lQ{g cap:Nat}{l:Bs}{z:Int}(hB:BX w g 5 l)(hz:In z)(hl:l.length<=1000000):Cl prog 156 [iv 1,.slice (some ⟨g,0,none⟩) l.length cap,iv z] w λr w'=>∃u,r=.agg (pcs ⟨z,1,0,0,[],[bG 1,l]⟩ u)/\PgN w' w.heap.size u ⟨z,1,0,0,[],[bG 1,l]⟩/\Fm F0 w w':=by
 refine cU3 func156 ?_;refine ae ?_;rintro b1 w1 rfl hs1 hw1 hf1;refine WS.new (Fm.refl _ _) ?_;intro w2 r hW hf2;refine hW.lit (ns:=[1]) (dC _ _) rfl (by simp) (by simp) ?_;intro u w3 hW;rw[List.nil_append,jm] at hW;have hF:=Fmf hf1 hW.fm;refine⟨λw'=>Fm F0 w3 w',Fm.drew F0 w3,_,λw' hw=>ag ((hB.keep (Fmf hF hw) id).conv B38 (o:=0) (n:=l.length) (by omega) cap) ⟨rfl,rfl⟩,?_⟩;refine(dq (hW.keep (Fm.drew F0 w3)).wr.1).mono ?_;rintro _ _ ⟨rfl,rfl⟩;refine⟨Fm.drew F0 w3,?_⟩;have hw1:=(Fmf hW.fm (Fm.drew F0 w3)).heap hw1 id;have hFd:=Fmf hF (Fm.drew F0 w3);generalize w3.drew=w4 at hFd hw1;rw[List.drop_zero,List.take_length];refine bsl 2 #[stv (bG 1),stv l] 9 ?_;have hf5:=Fm.alloc F0 w4 (.cells #[stv (bG 1),stv l] 9);have ho:=da (w:=w4) (e:=9) (sz:=1) (base:=w4.heap.size) (n:=2) (l:=[stv (bG 1),stv l]) (by simp) (Nat.le_refl _) (by unfold maxLen;omega);generalize w4.alloc (.cells #[stv (bG 1),stv l] 9)=w5 at hf5 ho;refine bst (pcs ⟨z,1,0,0,[],[bG 1,l]⟩ (.slice (some ⟨w4.heap.size,0,none⟩) 2 2)) ⟨rfl,?_⟩;refine ao (hf5.heap hw1 id) λw6 hw6 hs6 hf6=>?_;simp only[RU,aa (n:=6) hw6 rfl];have hF5:=Fmf hFd hf5;have h1:0<w4.heap.size - w.heap.size:=by have:=aj hw1;omega
 have hz5:=hFd.size;have ho:=ah ho hf6 (by rintro y hy _ _ rfl;have:=aj hw1;omega);refine⟨_,rfl,⟨aB ho,CellsAt.aT ho,?_,?_,λ_ y hy=>?_⟩,Fm.own hF5 hf6 (by rintro y rfl;exact Nat.le_refl _)⟩
 ·intro x hx;simp only[List.mem_cons,List.not_mem_nil,or_false] at hx;rcases hx with rfl|rfl
  ·have:=aK (n:=1) (by decide);omega
  ·omega
 ·refine⟨hz,?_,?_,?_,by simp,by simp⟩<;>simp[In]
 ·cases hy;exact hz5
theorem wL(hm:Mo m){g cap:Nat}{l:Bs}(hB:BX w g 5 l)(hx:idOk m x=true)(hlt:plN x / 4<l.length){s:Int}:Cl prog 420 [.slice (some ⟨g,0,none⟩) l.length cap,iv x,.int .u8 s] w λr w'=>r=.tuple #[]/\BX w' g 5 (l.set (plN x / 4) (M.pbyte (l.getD (plN x / 4) 0) s (oQ x)))/\Fm (·=g) w w':=by
 refine cU3 func420 ?_;refine(mz hm hx).mono ?_;rintro _ w2 ⟨rfl,rfl⟩;have hB:=hB.keep (Fm.drew F0 w2) id;have e:=hB.cell (i:=plN x / 4) (b:=l.getD (plN x / 4) 0) (by rw[List.getD_eq_getElem?_getD,List.getElem?_eq_getElem hlt];rfl);have hfar:oQ x<=6:=by unfold oQ;omega
 simp only[RU,dU hlt,Nat.mul_one,e,sf,shV,if_neg (show ¬((oQ x:Nat):Int)<0 by omega),Int.toNat_natCast,jX,qu];have e3:orI .u8 (jU .u8 ((l.getD (plN x / 4) 0).toNat:Int) (IntKind.u8.wrap (3*2 ^ min (oQ x) IntKind.u8.bits))) (IntKind.u8.wrap (s*2 ^ min (oQ x) IntKind.u8.bits))=((M.pbyte (l.getD (plN x / 4) 0) s (oQ x)).toNat:Int):=by rw[show min (oQ x) IntKind.u8.bits=oQ x by show min (oQ x) 8=_;omega];unfold M.pbyte orI;rw[DB]
 rw[e3];refine hB.put hlt (b:=M.pbyte (l.getD (plN x / 4) 0) s (oQ x)) λw3 hB3 hs3 hf3=>?_;exact⟨hB3,(Fm.drew F0 w2).trans hf3 iE iT⟩
theorem wN(h:PgN w n0 v p)(hm:Mo m)(hl0:(it0 p).length<=1000000){s:Int}(h0:0<=s)(h3:s<=3)(hg:M.clogSet m p x s=some q):Cl prog 375 [iv m,.agg (pcs p v),iv x,.int .u8 s] w λr w'=>∃u,r=.tuple #[.agg (pcs q u),iv 0]/\PgN w' w.heap.size u q/\Fm F0 w w':=by unfold M.clogSet at hg;obtain⟨_,hc,he⟩:=bind_some hg;cases he;have hg:=ak hc;rw[Bool.and_eq_true] at hg;obtain⟨hs,hx⟩:=hg;have hs:=pY hs;have hlt:=idx hs hx;refine cU4 func375 ?_;refine ae ?_;rintro b1 w1 rfl hs1 hw1 hf1;refine ae ?_;rintro b2 w2 rfl hs2 hw2 hf2;have hF:=Fmf hf1 hf2;have hw1:=hf2.heap hw1 id;simp only[RU,PB.all hw1];refine(lR (h.keep hF) hm hs hl0).mono ?_;rintro _ w3 ⟨g,cap,rfl,hg,hB,hf3⟩;simp only[RU,show((0:Int) != 0)=false from rfl];refine(kE hm hx).mono ?_;rintro _ w4 ⟨rfl,hf4⟩;simp only[RU,decide_eq_false (show ¬3<s by omega)];have hB:=hB.keep hf4 id;have hF4:=Fmf hf3 hf4;refine(wL hm hB hx hlt).mono ?_;rintro _ w5 ⟨rfl,hB,hf5⟩;have hF5:=Fm.own (Fmf hF hF4) hf5 (by rintro y rfl;omega);have hF25:=Fm.own hF4 hf5 (by rintro y rfl;omega);simp only[RU,PB.c0 (hF25.heap hw1 id)];have hm':=lQ (cap:=cap) hB h.ins.1 (by rw[List.length_set];have:=hs.len;have:=hm.hi;omega);rw[List.length_set] at hm';refine hm'.mono ?_;rintro _ w6 ⟨u,rfl,hN,hf6⟩;refine ao ((Fmf hF25 hf6).heap hw2 id) (λw7 hw7 hs7 hf7=>?_) rfl rfl (lM _ hN.one);simp only[RU,aa (n:=6) hw7 rfl];have:=hF25.size;have:=hF5.size;exact⟨u,rfl,(hN.dO hf7 (by rintro y rfl;omega)).base this,Fm.own (Fmf hF5 hf6) hf7 (by rintro y rfl;omega)⟩
theorem qx(hm:Mo m)(h4:m % 4=0):Cl prog 65 [iv m,iv 1] w λr w'=>∃u,r=.tuple #[.agg (pcs (M.clogNew m) u),iv 0]/\PgN w' w.heap.size u (M.clogNew m)/\Fm F0 w w':=by
 have:=hm.hi;have:=hm.lo;refine cU2 func65 ?_;refine ae ?_;rintro b1 w1 rfl hs1 hw1 hf1;refine(mh hm).mono ?_;rintro _ w2 ⟨rfl,hf2⟩;simp only[RU];refine(kE hm (x:=1) (by unfold idOk;simp;omega)).mono ?_;rintro _ w3 ⟨rfl,hf3⟩;simp only[RU];refine(lU hm h4).mono ?_;rintro _ w4 ⟨rfl,rfl⟩;obtain⟨n,hn⟩:=Int.eq_ofNat_of_zero_le (show 0<=m / 4 by omega);rw[hn];have hF:=Fmf hf1 (Fmf hf2 hf3);have hw1:=(Fmf hf2 hf3).heap hw1 id;refine ag (BRow.make B38 w4 n (by omega)) ?_;have hf5:=Fm.alloc F0 w4 (.cells (bc (aH n)).toArray 5);have hB:=BX.of (aA w4 (.cells (bc (aH n)).toArray 5));have hm':=lQ (cap:=n) (z:=0) hB (by simp[In]) (by simp[aH];omega);have e:(aH n).length=n:=by simp[aH]
 rw[e] at hm';refine hm'.mono ?_;rintro _ w6 ⟨u,rfl,hN,hf6⟩;have e:M.clogNew m=⟨0,1,0,0,[],[bG 1,aH n]⟩:=by unfold M.clogNew;rw[hn];rfl
 rw[<- e] at hN ⊢;have hz:=hf5.size;have hz4:=aj hw1;refine ao ((Fmf hf5 hf6).heap hw1 id) (λw7 hw7 hs7 hf7=>?_) rfl rfl (lM _ hN.one);simp only[RU,aa (n:=6) hw7 rfl];exact⟨u,rfl,(hN.dO hf7 (by rintro y rfl;omega)).base (by omega),Fm.own (Fmf hF (Fmf hf5 hf6)) hf7 (by rintro y rfl;omega)⟩
end
open M (idOk xAdd it0 it1 Vw Tu)
structure IsIn (w : World) (v : Value) (l : List Int) : Prop where
 ex : ∃ A : List Int, CellsAt w v A.length 1 (A.map iv) ∧ A.length ≤ 1000000 ∧ ∀ x, x ∈ A ↔ x ∈ l
abbrev vwC(V:Vw)(a r u:Value):Array Value:=#[iv V.m,iv V.next,a,iv V.own,r,iv V.st.lsn,iv V.st.kind,iv V.st.level,iv V.st.right,stv V.st.high,u]
structure VwN (w : World) (n0 : Nat) (V : Vw) (a r u : Value) : Prop where
 a : IsIn w a V.act
 r : IsIn w r V.run
 u : PgN w n0 u V.st
 mo : Mo V.m
 it : (it0 V.st).length ≤ 1000000
section
variable{w w':World}{n0:Nat}{a r u v:Value}{V:Vw}{x:Int}{t:Tu}
theorem IsIn.keep{l:List Int}(h:IsIn w v l)(hf:Fm F0 w w'):IsIn w' v l:=by obtain⟨A,h1,h2⟩:=h.ex;exact⟨A,h1.keep hf iT,h2⟩
theorem VwN.keep(h:VwN w n0 V a r u)(hf:Fm F0 w w'):VwN w' n0 V a r u:=⟨h.a.keep hf,h.r.keep hf,h.u.keep hf,h.mo,h.it⟩
theorem ny{l:List Int}(h:IsIn w v l)(x:Int):Cl prog 127 [v,iv x] w λr w'=>r=.bool (decide (x∈l))/\w'=w:=by
 obtain⟨A,hA,hl,hi⟩:=h.ex;rw[show decide (x∈l)=decide (x∈A) from decide_eq_decide.2 (hi x).symm];refine cU2 func127 ?_;refine cU2 func218 ?_ (V [(2,[8])]);simp only[RU,hA.lenV];refine⟨λvs w3=>∃i:Nat,vs=[iv i]/\i<=A.length/\w3=w/\x∉A.take i,λvs _=>(A.length - nth vs 0).toNat,⟨0,rfl,by omega,rfl,by simp⟩,?_⟩;rintro w3 v1 ⟨i,hvs,hil,rfl,hn⟩;cases hvs;by_cases hlt:i<A.length
 ·have hx:A[i]?=some A[i]:=List.getElem?_eq_getElem hlt;generalize A[i]=y at hx;obtain⟨ad,k1,_,k2⟩:=hA.j4 (i:=i) (x:=iv y) (by rw[List.getElem?_map,hx];rfl) .i64;have e:=List.take_add_one (l:=A) (i:=i);rw[hx] at e;by_cases hy:x=y
  ·have:x∈A:=by rw[hy];exact List.mem_of_getElem? hx
   simp only[RU,decide_eq_true (show(i:Int)<(A.length:Int) by omega),k1,k2,hy,beq_self_eq_true,decide_eq_true (show(0:Int)<=(i:Int) by omega),decide_eq_true (hy▸this),and_self]
  ·simp only[RU,decide_eq_true (show(i:Int)<(A.length:Int) by omega),k1,k2,aV,decide_eq_false hy,show IntKind.i64.wrap ((i:Int)+1)=((i+1:Nat):Int) by rw[af]<;>omega];exact⟨⟨i+1,rfl,by omega,by rw[e];simp[hn,hy]⟩,by simp only[ba];omega⟩
 ·rw[List.take_of_length_le (by omega)] at hn;simp only[RU,decide_eq_false (show ¬(i:Int)<(A.length:Int) by omega),show decide ((0:Int)<=-1)=false from rfl,decide_eq_false hn,and_self]
theorem lr(h:VwN w n0 V a r u){s:Int}(hs:M.status V x=some s):Cl prog 289 [.agg (vwC V a r u),iv x] w λo w'=>o=.int .u8 s/\Fm F0 w w':=by
 unfold M.status at hs;refine cU2 func289 ?_;refine ae ?_;rintro b1 w1 rfl hs1 hw1 hf1;have c:=λo=>ab (off:=o) hw1;have h:=h.keep hf1;simp only[RU,c];refine(ny h.r x).mono ?_;rintro _ w2 ⟨rfl,rfl⟩;cases hd:decide (x∈V.run) with
 | true=>rw[hd] at hs;cases hs;simp only[RU];exact hf1
 | false=>rw[hd] at hs;simp only[RU,c,cT hw1 (o:=5) (n:=6) (us:=pcs V.st u) (Nat.le_refl _) rfl];refine(wF h.u h.mo h.it hs).mono ?_;rintro _ w3 ⟨rfl,hf3⟩;simp only[RU,show((0:Int) != 0)=false from rfl];exact Fmf hf1 hf3
theorem ll(h:VwN w n0 V a r u){b:Bool}(hs:M.sees V x=some b):Cl prog 447 [.agg (vwC V a r u),iv x] w λo w'=>o=.bool b/\Fm F0 w w':=by
 unfold M.sees at hs;refine cU2 func447 ?_;refine ae ?_;rintro b1 w1 rfl hs1 hw1 hf1;have c:=λo=>ab (off:=o) hw1;have h:=h.keep hf1;rw[<- aV,<- aV] at hs;cases h0:(x == 0) with
 | true=>rw[h0] at hs;cases hs;simp only[RU,h0];exact hf1
 | false=>
 cases h1:(x == V.own) with
 | true=>rw[h0,h1] at hs;cases hs;simp only[RU,h0,c,h1];exact hf1
 | false=>
 rw[h0,h1,cond_false,cond_false] at hs;simp only[RU,h0,c,h1];refine(ny h.a x).mono ?_;rintro _ w2 ⟨rfl,rfl⟩;have H:∀w3,Fm F0 w2 w3->(M.status V x).map (λs=>decide (s=2))=some b->Cl prog 289 [.agg (vwC V a r u),iv x] w3 λv w_1=>Pu (ax (.int .u8) .eql v (.int .u8 2)) λv=>v=.bool b/\Fm F0 w w_1:=by intro w3 hf3 hb;obtain⟨s,hq,rfl⟩:=Option.map_eq_some_iff.1 hb;refine(lr (h.keep hf3) hq).mono ?_;rintro _ w4 ⟨rfl,hf4⟩;simp only[RU,aV];exact Fmf hf1 (Fmf hf3 hf4)
 cases ha:decide (x∈V.act) with
 | true=>rw[ha] at hs;cases hs;simp only[RU];exact hf1
 | false=>
  rw[ha,Bool.false_or] at hs;simp only[RU,c];refine(jV h.mo x V.next).mono ?_;rintro _ w3 ⟨rfl,hf3⟩;cases hb:M.xBefore V.m x V.next with
  | false=>rw[hb] at hs;cases hs;simp only[RU];exact Fmf hf1 hf3
  | true=>rw[hb] at hs;simp only[RU,aa (n:=11) (hf3.heap hw1 id) rfl];exact H w3 hf3 hs
theorem qe(h:VwN w n0 V a r u){b:Bool}(hs:M.visible V t=some b):Cl prog 431 [.agg (vwC V a r u),.agg (tuC t)] w λo w'=>o=.bool b/\Fm F0 w w':=by
 obtain⟨b1,h1,h2⟩:=bind_some hs;refine cU2 func431 ?_;refine ae ?_;rintro b1 w1 rfl hs1 hw1 hf1;refine ae ?_;rintro b2 w2 rfl hs2 hw2 hf2;have hF:=Fmf hf1 hf2;have hw1:=hf2.heap hw1 id;have c:=λo=>ab (off:=o) hw2;simp only[RU,c,aa (n:=11) hw1 rfl];refine(ll (h.keep hF) h1).mono ?_;rintro _ w3 ⟨rfl,hf3⟩;cases b1 with
 | false=>cases h2;simp only[RU];exact Fmf hF hf3
 | true=>obtain⟨b3,h3,rfl⟩:=Option.map_eq_some_iff.1 h2;have c:=λo=>ab (off:=o) (hf3.heap hw2 id);simp only[RU,c,aa (n:=11) (hf3.heap hw1 id) rfl];refine(ll (h.keep (Fmf hF hf3)) h3).mono ?_;rintro _ w4 ⟨rfl,hf4⟩;simp only[RU];exact Fmf hF (Fmf hf3 hf4)
theorem lA(h:VwN w n0 V a r u){b:Bool}(hs:M.unseen V x=some b):Cl prog 448 [.agg (vwC V a r u),iv x] w λo w'=>o=.bool b/\Fm F0 w w':=by
 unfold M.unseen at hs;refine cU2 func448 ?_;refine ae ?_;rintro b1 w1 rfl hs1 hw1 hf1;rw[<- aV] at hs;cases h0:(x == 0) with
 | true=>rw[h0] at hs;cases hs;simp only[RU,show(x != 0)=!(x == 0) from rfl,h0];exact hf1
 | false=>
  rw[h0] at hs;obtain⟨b1,h1,h2⟩:=bind_some hs;simp only[RU,show(x != 0)=!(x == 0) from rfl,h0,aa (n:=11) hw1 rfl];refine(ll (h.keep hf1) h1).mono ?_;rintro _ w3 ⟨rfl,hf3⟩;cases b1 with
  | true=>cases h2;simp only[RU];exact Fmf hf1 hf3
  | false=>obtain⟨s,h3,rfl⟩:=Option.map_eq_some_iff.1 h2;simp only[RU,aa (n:=11) (hf3.heap hw1 id) rfl];refine(lr (h.keep (Fmf hf1 hf3)) h3).mono ?_;rintro _ w4 ⟨rfl,hf4⟩;simp only[RU,aV];exact Fmf hf1 (Fmf hf3 hf4)
theorem uq(h:VwN w n0 V a r u){b:Bool}(hs:M.newer V t=some b):Cl prog 432 [.agg (vwC V a r u),.agg (tuC t)] w λo w'=>o=.bool b/\Fm F0 w w':=by
 obtain⟨b1,h1,h2⟩:=bind_some hs;refine cU2 func432 ?_;refine ae ?_;rintro b1 w1 rfl hs1 hw1 hf1;refine ae ?_;rintro b2 w2 rfl hs2 hw2 hf2;have hF:=Fmf hf1 hf2;have hw1:=hf2.heap hw1 id;have c:=λo=>ab (off:=o) hw2;simp only[RU,c,aa (n:=11) hw1 rfl];refine(lA (h.keep hF) h1).mono ?_;rintro _ w3 ⟨rfl,hf3⟩;cases b1 with
 | true=>cases h2;simp only[RU];exact Fmf hF hf3
 | false=>have c:=λo=>ab (off:=o) (hf3.heap hw2 id);simp only[RU,c,aa (n:=11) (hf3.heap hw1 id) rfl];refine(lA (h.keep (Fmf hF hf3)) h2).mono ?_;rintro _ w4 ⟨rfl,hf4⟩;simp only[RU];exact Fmf hF (Fmf hf3 hf4)
end
open M (Tu tu dM fH it0)
abbrev Sm(p:Pg):Prop:=∀s∈p.items,s.length<=1000000
section
variable{w w':World}{n0:Nat}{v u vs vm vi vp vt:Value}{p q:Pg}{r:Rc}{m i:Int}{g:Nat}
theorem rq{w w5 w6:World}{b:Nat}{cs:Array Value}{k:KV}(hF:Fm F0 w w5)(hN:PgN w6 w5.heap.size u q)(hf:Fm F0 w5 w6)(hb:w5.heap[b]?=some (.cells cs 68))(hge:w.heap.size<=b)(hk:∀w7,w7.heap[b]?=some (.cells (pcs q u) 68)->PgN w7 w.heap.size u q->Fm F0 w w7->k undef w7)(hc:cs.size=6:=by rfl):St 6 w6 (pv b) (.agg (pcs q u)) k:=ao (hf.heap hb id) (λw7 hw7 hs7 hf7=>hk w7 hw7 ((hN.dO hf7 (by rintro y rfl;exact aj hb)).base hF.size) (Fm.own (Fmf hF hf) hf7 (by rintro y rfl;exact hge))) rfl hc (lM _ hN.one)
theorem oJ(h:PgN w n0 v p)(hd:r.data.length<=1000000)(hk:r.kind=1)(hq:M.deed m p r=some q):Cl prog 304 [iv m,.agg (pcs p v),.agg (rcs r vs vm vi vp vt)] w λo w'=>∃u,o=.tuple #[.agg (pcs q u),iv 0]/\PgN w' w.heap.size u q/\Fm F0 w w':=by
 unfold M.deed at hq;rw[hk] at hq;obtain⟨t,ht,hq⟩:=bind_some hq;obtain⟨_,hc,hq⟩:=bind_some hq;have hc:=of_decide_eq_true (ak hc);unfold M.heapPut M.fitsP at hq;obtain⟨_,hfit,hq⟩:=bind_some hq;have e:p.items++[r.data]=M.putIt p.items p.items.length r.data:=by simp[M.putIt]
 replace hq:wi p (M.putIt p.items p.items.length r.data)=q:=by rw[<- e];exact Option.some.inj hq
 have hfit:eW (wi p (M.putIt p.items p.items.length r.data))=true:=by rw[<- e];exact ak hfit
 refine cU3 func304 ?_;refine ae ?_;rintro b1 w1 rfl hs1 hw1 hf1;refine ae ?_;rintro b2 w2 rfl hs2 hw2 hf2;refine ae ?_;rintro b3 w3 rfl hs3 hw3 hf3;have hw1:=hf3.heap (hf2.heap hw1 id) id;have hw2:RB w3 w1.heap.size r vs vm vi vp vt:=⟨hf3.heap hw2 id⟩;have hF:=Fmf hf1 (Fmf hf2 hf3);simp only[RU,hw2.c10];refine(fG hd (iH ht)).mono ?_;rintro _ w4 ⟨rfl,hf4⟩;simp only[RU,Option.isSome_some];refine aE λw5 hs5 hw5 hf5=>?_;have hf5:=Fmf hf4 hf5;have hw2:=hw2.keep hf5 id;simp only[RU,cond_true,show((0:Int) != 0)=false from rfl,PB.c5 (hf5.heap hw1 id),h.it.lenV,hw2.c6,hc,beq_self_eq_true,PB.all (hf5.heap hw1 id),hw2.c10];have hp:=kX (h.keep (Fmf hF hf5)) (Nat.le_refl _) hd hfit;rw[hq] at hp;refine hp.mono ?_;rintro _ w6 ⟨u,rfl,hN,hf6⟩;simp only[RU];refine rq (Fmf hF hf5) hN hf6 (hf5.heap hw3 id) (by omega) λw7 hw7 hN hF=>?_;simp only[RU,aa (n:=6) hw7 rfl];exact⟨u,rfl,hN,hF⟩
theorem vO{rb tb:Nat}{t:Tu}(hr:RB w rb r vs vm vi vp vt)(ht:w.heap[tb]?=some (.cells (tuC t) 302))(hne:rb≠tb):Cl prog 367 [pv tb,pv rb] w λo w'=>o=.bool (decide (t.xmax=r.old))/\w'.heap[tb]?=some (.cells (tuC { t with xmax:=r.new }) 302)/\Fm (·=tb) w w':=by have c:=λo=>ab (off:=o) ht;refine cU2 func367 ?_;simp only[RU,c,hr.c8];refine au ht (j:=1) (show 1<5 by decide) rfl λw2 hw2 hs2 hf2=>?_;simp only[RU,(hr.keep hf2 hne).c7,aV];exact⟨hw2,hf2⟩
theorem ze(h:PgN w n0 v p)(hs:Sm p)(hr:RB w g r vs vm vi vp vt)(hq:M.turn p i r.old r.new=some q):Cl prog 366 [.agg (pcs p v),iv i,.func (.func 367) #[] #[pv g]] w λo w'=>∃u,o=.tuple #[.agg (pcs q u),iv 0]/\PgN w' w.heap.size u q/\Fm F0 w w':=by
 unfold M.turn at hq;obtain⟨s,hi,hq⟩:=bind_some hq;obtain⟨t,ht,hq⟩:=bind_some hq;obtain⟨_,hc,hq⟩:=bind_some hq;have hc:=ak hc;rw[Bool.and_eq_true] at hc;obtain⟨hc,hok⟩:=hc;obtain⟨j,rfl,hj,hlt⟩:=cM hi;have hsl:=hs s (List.mem_of_getElem? hj);refine cU3 func366 ?_;refine ae ?_;rintro b1 w1 rfl hs1 hw1 hf1;refine ae ?_;rintro b2 w2 rfl hs2 hw2 hf2;have hw1:=hf2.heap hw1 id;have hF:=Fmf hf1 hf2;obtain⟨ad,k1,_,k2⟩:=(h.it.keep hF iT).j4 (i:=j) (x:=stv s) (by rw[List.getElem?_map,hj];rfl) .i64;simp only[RU,decide_eq_false (show ¬(j:Int)<0 by omega),PB.c5 hw1,h.it.lenV,decide_eq_false (show ¬(p.items.length:Int)<=(j:Int) by omega),k1,k2];refine(fG hsl (iH ht)).mono ?_;rintro _ w4 ⟨rfl,hf4⟩;simp only[RU,Option.isSome_some];refine aE (us:=tuC t) λw5 hs5 hw5 hf5=>?_;have hf5':=Fmf hf4 hf5;simp only[RU,cond_true,show((0:Int) != 0)=false from rfl];refine ay (by kernel_rfl) ?_;refine(vO (hr.keep (Fmf hF hf5') id) hw5 (by have:=aj hr.h;have:=(Fmf hF hf4).size;omega)).mono ?_;rintro _ w6 ⟨rfl,hw6,hf6⟩;have hf6:=Fm.own hf5' hf6 (by rintro y rfl;exact hf4.size);simp only[RU,hc];simp only[RU,aa (n:=5) hw6 rfl];refine(iC hok).mono ?_;rintro _ w7 ⟨rfl,hf7⟩;have hf7:=Fmf hf6 hf7;unfold M.heapWith M.fitsP at hq;obtain⟨_,hfit,hq⟩:=bind_some hq
 replace hq:wi p (p.items.set j (dM { t with xmax:=r.new }))=q:=Option.some.inj hq
 have hfit:eW (wi p (p.items.set j (dM { t with xmax:=r.new })))=true:=ak hfit;simp only[RU,show((0:Int) != 0)=false from rfl,PB.all (hf7.heap hw1 id)];have hp:=ja (h.keep (Fmf hF hf7)) hlt (ly hok) hfit;rw[hq] at hp;refine hp.mono ?_;rintro _ w8 ⟨u,rfl,hN,hf8⟩;simp only[RU];refine rq (Fmf hF hf7) hN hf8 (hf7.heap hw2 id) (by omega) λw7 hw7 hN hF=>?_
 simp only[RU,aa (n:=6) hw7 rfl];exact⟨u,rfl,hN,hF⟩
theorem lX(h:PgN w n0 v p)(hs:Sm p)(hq:M.turn p r.slot r.old r.new=some q):Cl prog 305 [iv m,.agg (pcs p v),.agg (rcs r vs vm vi vp vt)] w λo w'=>∃u,o=.tuple #[.agg (pcs q u),iv 0]/\PgN w' w.heap.size u q/\Fm F0 w w':=by refine cU3 func305 ?_;refine ae ?_;rintro b1 w1 rfl hs1 hw1 hf1;refine ae ?_;rintro b2 w2 rfl hs2 hw2 hf2;refine ae ?_;rintro b3 w3 rfl hs3 hw3 hf3;have hw1:=hf3.heap (hf2.heap hw1 id) id;have hw2:RB w3 w1.heap.size r vs vm vi vp vt:=⟨hf3.heap hw2 id⟩;have hF:=Fmf hf1 (Fmf hf2 hf3);simp only[RU,PB.all hw1,hw2.c6];refine(ze (h.keep hF) hs hw2 hq).mono ?_;rintro _ w4 ⟨u,rfl,hN,hf4⟩;simp only[RU];refine rq hF hN hf4 hw3 (by omega) λw7 hw7 hN hF=>?_;simp only[RU,aa (n:=6) hw7 rfl];exact⟨u,rfl,hN,hF⟩
theorem qB(h:PgN w n0 v p)(hs:Sm p)(hd:r.data.length<=1000000)(hl:p.level=0)(hk:r.kind=3)(hq:M.deed m p r=some q):Cl prog 307 [iv m,.agg (pcs p v),.agg (rcs r vs vm vi vp vt)] w λo w'=>∃u,o=.tuple #[.agg (pcs q u),iv 0]/\PgN w' w.heap.size u q/\Fm F0 w w':=by unfold M.deed at hq;rw[hk] at hq;obtain⟨e,he,hq⟩:=bind_some hq;refine cU3 func307 ?_;refine ae ?_;rintro b1 w1 rfl hs1 hw1 hf1;refine ae ?_;rintro b2 w2 rfl hs2 hw2 hf2;refine ae ?_;rintro b3 w3 rfl hs3 hw3 hf3;have hw1:=hf3.heap (hf2.heap hw1 id) id;have hw2:RB w3 w1.heap.size r vs vm vi vp vt:=⟨hf3.heap hw2 id⟩;have hF:=Fmf hf1 (Fmf hf2 hf3);simp only[RU,PB.c2 hw1,hl,show((0:Int) != 0)=false from rfl,hw2.c10];refine(kl hd he).mono ?_;rintro _ w4 ⟨rfl,hf4⟩;simp only[RU];refine aE (us:=entC e) λw5 hs5 hw5 hf5=>?_;have hf5:=Fmf hf4 hf5;simp only[RU,show((0:Int) != 0)=false from rfl,PB.all (hf5.heap hw1 id),aa (n:=3) hw5 rfl];refine(jl (h.keep (Fmf hF hf5)) hs hq).mono ?_;rintro _ w6 ⟨u,rfl,hN,hf6⟩;simp only[RU];refine rq (Fmf hF hf5) hN hf6 (hf5.heap hw3 id) (by omega) λw7 hw7 hN hF=>?_;simp only[RU,aa (n:=6) hw7 rfl];exact⟨u,rfl,hN,hF⟩
theorem ji(h:PgN w n0 v p)(hm:Mo m)(hl0:(it0 p).length<=1000000){sb:Nat}{s:Int}(hsb:w.heap[sb]?=some (.cells #[.int .u8 s] 373))(h0:0<=s)(h3:s<=3)(hq:M.clogSet m p r.xid s=some q):Cl prog 374 [iv m,.agg (pcs p v),.agg (rcs r vs vm vi vp vt),pv sb] w λo w'=>∃u,o=.tuple #[.agg (pcs q u),iv 0]/\PgN w' w.heap.size u q/\Fm F0 w w':=by refine cU4 func374 ?_;refine ae ?_;rintro b1 w1 rfl hs1 hw1 hf1;refine ae ?_;rintro b2 w2 rfl hs2 hw2 hf2;refine ae ?_;rintro b3 w3 rfl hs3 hw3 hf3;have hw1:=hf3.heap (hf2.heap hw1 id) id;have hw2:RB w3 w1.heap.size r vs vm vi vp vt:=⟨hf3.heap hw2 id⟩;have hF:=Fmf hf1 (Fmf hf2 hf3);simp only[RU,PB.all hw1,hw2.c4,ab (off:=0) (hF.heap hsb id)];refine(wN (h.keep hF) hm hl0 h0 h3 hq).mono ?_;rintro _ w4 ⟨u,rfl,hN,hf4⟩;simp only[RU];refine rq hF hN hf4 hw3 (by omega) λw7 hw7 hN hF=>?_;simp only[RU,aa (n:=6) hw7 rfl];exact⟨u,rfl,hN,hF⟩
theorem wP{k:Bs}(hk:M.keyOk k=true):Cl prog 368 [stv k] w λo w'=>o=.tuple #[stv (M.deadB k),iv 0]/\Fm F0 w w':=by have hk':=keyOk_iff.1 hk;refine cU1 func368 ?_;refine(mN hk).mono ?_;rintro _ w1 ⟨rfl,rfl⟩;simp only[RU];refine WS.new (Fm.refl _ w1) ?_;intro w2 r hW hf2;refine hW.lit (ns:=[4]) (dC _ _) rfl (by simp) (by simp) ?_;intro u w3 hW;have hl:=aK (n:=4) (by decide);have hl':=aK (n:=k.length) (by omega);refine hW.text (by omega) (by simp[cz];omega) ?_;intro u w4 hW;refine(dq hW.wr.1).mono ?_;rintro _ _ ⟨rfl,rfl⟩;exact⟨by simp[M.deadB,cz],hW.fm⟩
theorem nW{s:Bs}{t:Tu}(h:fH s=some t):([]:Bs)≠s/\M.keyOk t.key=true:=by
 unfold fH at h;cases hc:decide (5<=s.length)&&decide ((s.getD 0 0).toNat=1)&&decide (vy (M.tuRd s).2.2.1 (M.tuRd s).2.2.2=0)&&decide (ofN ((s.drop 1).take 2)≠0/\ofN ((s.drop 1).take 2)<=1024/\ofN ((s.drop 3).take 2)<=1024/\(M.tuRd s).1≠[]) with
 | false=>rw[hc] at h;cases h
 | true=>rw[hc] at h;cases h;simp only[Bool.and_eq_true,decide_eq_true_eq] at hc;obtain⟨⟨⟨g1,g2⟩,g3⟩,g4,g5,g6,g7⟩:=hc;have:=(pQ (most:=24) (by decide) (s.drop 5,0)).1;exact⟨by rintro rfl;simp at g1,keyOk_iff.2 ⟨List.length_pos_iff.2 g7,by exact_mod_cast this⟩⟩
theorem xA{s:Bs}(hs:s.length<=1000000){t:Tu}(ht:fH s=some t):Cl prog 200 [stv s] w λo w'=>o=.int .u8 3/\Fm F0 w w':=by have hne:=(nW ht).1;refine cU1 func200 ?_;refine cU0 func284 ?_;rw[show decide (s=[])=false from decide_eq_false (λe=>hne e.symm)];simp only[RU];refine(fG hs (iH ht)).mono ?_;rintro _ w4 ⟨rfl,hf4⟩;simp only[RU];refine aE (us:=tuC t) λw5 hs5 hw5 hf5=>?_;simp only[RU,Option.isSome_some,cond_true,beq_self_eq_true];exact Fmf hf4 hf5
theorem yX{s:Bs}(hs:s.length<=1000000){t:Tu}(ht:fH s=some t):Cl prog 201 [stv s] w λo w'=>o=.tuple #[stv t.key,.bool true]/\Fm F0 w w':=by refine cU1 func201 ?_;refine(fG hs (iH ht)).mono ?_;rintro _ w4 ⟨rfl,hf4⟩;simp only[RU];refine aE (us:=tuC t) λw5 hs5 hw5 hf5=>?_;simp only[RU,Option.isSome_some,cond_true,beq_self_eq_true,ab hw5];exact Fmf hf4 hf5
theorem tS(h:PgN w n0 v p)(hs:Sm p)(hk:r.kind=6)(hq:M.deed m p r=some q):Cl prog 306 [iv m,.agg (pcs p v),.agg (rcs r vs vm vi vp vt)] w λo w'=>∃u,o=.tuple #[.agg (pcs q u),iv 0]/\PgN w' w.heap.size u q/\Fm F0 w w':=by
 unfold M.deed at hq;rw[hk] at hq;have hq:(bif decide (r.old≠0)||decide (r.new≠0) then M.turn p r.slot r.old r.new else do
  let s <- M.itemAt p r.slot;let t <- fH s
  M.heapWith p r.slot.toNat (M.deadB t.key))=some q:=hq
 refine cU3 func306 ?_;refine ae ?_;rintro b1 w1 rfl hs1 hw1 hf1;refine ae ?_;rintro b2 w2 rfl hs2 hw2 hf2;refine ae ?_;rintro b3 w3 rfl hs3 hw3 hf3;have hw1:=hf3.heap (hf2.heap hw1 id) id;have hw2:RB w3 w1.heap.size r vs vm vi vp vt:=⟨hf3.heap hw2 id⟩;have hF:=Fmf hf1 (Fmf hf2 hf3);have T:decide (r.old≠0)||decide (r.new≠0)->Cl prog 305 [iv m,.agg (pcs p v),.agg (rcs r vs vm vi vp vt)] w3 λx w4=>Pu (bj x 0) λy=>Pu (bj x 1) λz=>St 6 w4 (pv w2.heap.size) y λ_ w5=>Pu (aM w5 ⟨w2.heap.size,0,none⟩ 6) λx=>∃u,.tuple #[x,z]=Value.tuple #[.agg (pcs q u),iv 0]/\PgN w5 w.heap.size u q/\Fm F0 w w5:=by intro hc;rw[hc,cond_true] at hq;refine(lX (h.keep hF) hs hq).mono ?_;rintro _ w4 ⟨u,rfl,hN,hf4⟩;simp only[RU];refine rq hF hN hf4 hw3 (by omega) λw7 hw7 hN hF=>?_;simp only[RU,aa (n:=6) hw7 rfl];exact⟨u,rfl,hN,hF⟩
 have eo:decide (r.old≠0)=(r.old != 0):=by rw[aG];simp
 have en:decide (r.new≠0)=(r.new != 0):=by rw[aG];simp
 rw[eo,en] at hq T;cases ho:(r.old != 0) with
 | true=>simp only[RU,hw2.c7,hw2.c8,ho,PB.all hw1,hw2.all];exact T (by rw[ho];rfl)
 | false=>
 cases hn:(r.new != 0) with
 | true=>simp only[RU,hw2.c7,hw2.c8,ho,hn,PB.all hw1,hw2.all];exact T (by rw[ho,hn];rfl)
 | false=>
 rw[ho,hn,Bool.false_or,cond_false] at hq;obtain⟨s,hi,hq⟩:=bind_some hq;obtain⟨t,ht,hq⟩:=bind_some hq;obtain⟨j,hj0,hj,hlt⟩:=cM hi;rw[hj0] at hq;have hsl:=hs s (List.mem_of_getElem? hj);obtain⟨ad,k1,_,k2⟩:=(h.it.keep hF iT).j4 (i:=j) (x:=stv s) (by rw[List.getElem?_map,hj];rfl) .i64;simp only[RU,hw2.c7,hw2.c8,ho,hn,hw2.c6,hj0,decide_eq_false (show ¬(j:Int)<0 by omega),PB.c5 hw1,h.it.lenV,decide_eq_false (show ¬(p.items.length:Int)<=(j:Int) by omega),k1,k2];refine(xA hsl ht).mono ?_;rintro _ w4 ⟨rfl,hf4⟩;have hw2':=hw2.keep hf4 id;obtain⟨ad,k1,_,k2⟩:=(h.it.keep (Fmf hF hf4) iT).j4 (i:=j) (x:=stv s) (by rw[List.getElem?_map,hj];rfl) .i64;simp only[RU,show((3:Int) != 3)=false from rfl,hw2'.c6,hj0,PB.c5 (hf4.heap hw1 id),k1,k2];refine(yX hsl ht).mono ?_;rintro _ w5 ⟨rfl,hf5⟩;have hf5:=Fmf hf4 hf5;simp only[RU];refine(wP (nW ht).2).mono ?_;rintro _ w6 ⟨rfl,hf6⟩;have hf6:=Fmf hf5 hf6;have hw2':=hw2.keep hf6 id;have hk:=keyOk_iff.1 (nW ht).2;have hdl:(M.deadB t.key).length<=1000000:=by have:=aK (n:=4) (by decide);have:=aK (n:=t.key.length) (by omega);simp only[M.deadB,iM,List.length_append];omega
 unfold M.heapWith M.fitsP at hq;obtain⟨_,hfit,hq⟩:=bind_some hq
 replace hq:wi p (p.items.set j (M.deadB t.key))=q:=Option.some.inj hq
 have hfit:eW (wi p (p.items.set j (M.deadB t.key)))=true:=ak hfit;simp only[RU,show((0:Int) != 0)=false from rfl,PB.all (hf6.heap hw1 id),hw2'.c6,hj0];have hp:=ja (h.keep (Fmf hF hf6)) hlt hdl hfit;rw[hq] at hp;refine hp.mono ?_;rintro _ w8 ⟨u,rfl,hN,hf8⟩;simp only[RU];refine rq (Fmf hF hf6) hN hf8 (hf6.heap hw3 id) (by omega) λw7 hw7 hN hF=>?_
 simp only[RU,aa (n:=6) hw7 rfl];exact⟨u,rfl,hN,hF⟩
theorem Hp:KeyT prog 329 164 328 (Value.int .u8):=dH underlying329 underlying164
def fnV(g:FuncId):Value:=.func (.func g) #[] #[]
def Fq(b:Nat):Value:=.func (.func 374) #[] #[pv b]
def dd(x y:Nat):List (Int×Value):=[(1,fnV 304),(2,fnV 305),(6,fnV 306),(3,fnV 307),(4,fnV 308),(7,Fq x),(8,Fq y),(9,fnV 310),(10,fnV 311),(11,fnV 312)]
theorem zt{w0:World}{b:Nat}{D:List (Int×Value)}(h:MapAt w b (Value.int .u8) id D)(hf0:Fm F0 w0 w)(hb:w0.heap.size<=b)(a:Int)(u:Value){k:KV}(hk:∀w',MapAt w' b (Value.int .u8) id (cO D a u)->Fm F0 w0 w'->Fm (·=b) w w'->k undef w'):RunU prog (Instr.mapUpdate 329 (.map (some b)) (.int .u8 a) u) w k:=by obtain⟨w',hr,hm,hf,_⟩:=bk Hp h a u;exact cB hr (hk w' hm (Fm.own hf0 hf (by rintro y rfl;exact hb)) hf)
theorem tj(w:World)(s:Int):Cl prog 309 [.int .u8 s] w λo w'=>o=Fq w.heap.size/\w'.heap[w.heap.size]?=some (.cells #[.int .u8 s] 373)/\Fm F0 w w':=by refine cU1 func309 ?_;refine ae ?_;rintro b1 w1 rfl hs1 hw1 hf1;exact⟨rfl,hw1,hf1⟩
theorem lW(w:World):Cl prog 229 [] w λo w'=>∃b x y,o=.map (some b)/\MapAt w' b (Value.int .u8) id (dd x y)/\w'.heap[x]?=some (.cells #[.int .u8 2] 373)/\w'.heap[y]?=some (.cells #[.int .u8 3] 373)/\Fm F0 w w':=by refine cU0 func229 ?_;refine ag (bf _ _) ?_;have hf:=Fm.alloc F0 w (.map #[] 0);have hm:=MapAt.empty w (Value.int .u8) (id:Value->Value);generalize w.alloc (.map #[] 0)=w0 at hf hm;refine zt hm hf (Nat.le_refl _) _ _ λw1 hm hf _=>?_;refine zt hm hf (Nat.le_refl _) _ _ λw2 hm hf _=>?_;refine zt hm hf (Nat.le_refl _) _ _ λw3 hm hf _=>?_;refine zt hm hf (Nat.le_refl _) _ _ λw4 hm hf _=>?_;refine zt hm hf (Nat.le_refl _) _ _ λw5 hm hf _=>?_;have hl:=hm.lt;refine(tj w5 2).mono ?_;rintro _ w6 ⟨rfl,hx,hf6⟩;have hm:=hm.keep hf6 id;refine zt hm (Fmf hf hf6) (Nat.le_refl _) _ _ λw7 hm hf hg=>?_;have hx:=hg.heap hx (by omega);have hl7:=hm.lt;refine(tj w7 3).mono ?_;rintro _ w8 ⟨rfl,hy,hf8⟩;have hx:=hf8.heap hx id;have hm:=hm.keep hf8 id;refine zt hm (Fmf hf hf8) (Nat.le_refl _) _ _ λw9 hm hf hg=>?_;have hx:=hg.heap hx (by omega);have hy:=hg.heap hy (by omega);refine zt hm hf (Nat.le_refl _) _ _ λwa hm hf hg=>?_;have hx:=hg.heap hx (by omega);have hy:=hg.heap hy (by omega);refine zt hm hf (Nat.le_refl _) _ _ λwb hm hf hg=>?_;have hx:=hg.heap hx (by omega);have hy:=hg.heap hy (by omega);refine zt hm hf (Nat.le_refl _) _ _ λwc hm hf hg=>?_;have hx:=hg.heap hx (by omega);have hy:=hg.heap hy (by omega);exact⟨_,_,_,rfl,hm,hx,hy,hf⟩
end
end Go.Proofs.YtmdmffeoehfjgaaGreatDoor
