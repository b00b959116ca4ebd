/- Laid for one claim by slim.py out of: parts. -/
import Derived.Test.YtmdmffeoehfjgaaGreatDoorTgsB
set_option maxRecDepth 100000
set_option maxHeartbeats 0
set_option linter.unusedVariables false
set_option linter.unusedSimpArgs false
set_option linter.unusedSectionVars false
open Go.Proofs.Tryz (prog)
namespace Go.Proofs.YtmdmffeoehfjgaaGreatDoor
open Go.Al Go.Proofs
def pcs(p:Pg)(v:Value):Array Value:=#[iv p.lsn,iv p.kind,iv p.level,iv p.right,stv p.high,v]
structure PgAs (w : World) (cs : Array Value) (p : Pg) : Prop where
 ex : ∃ v, cs = pcs p v ∧ v.oneCell' = true ∧ CellsAt w v p.items.length 1 (p.items.map stv)
 small : ∀ x ∈ p.items, x.length ≤ 140737488355328
 ins : In p.lsn ∧ In p.kind ∧ In p.level ∧ In p.right ∧ p.high.length ≤ 140737488355328 ∧ p.items.length * 16 ≤ 140737488355328
theorem PgAs.keep{w w':World}{cs:Array Value}{p:Pg}(h:PgAs w cs p)(hf:Fm (λ_=>False) w w'):PgAs w' cs p:=by obtain⟨v,h1,h2,h3⟩:=h.ex;exact⟨⟨v,h1,h2,h3.keep hf iT⟩,h.small,h.ins⟩
theorem PgAs.size{w:World}{cs:Array Value}{p:Pg}(h:PgAs w cs p):cs.size=6:=by obtain⟨v,rfl,_⟩:=h.ex;rfl
theorem PgAs.one{w:World}{cs:Array Value}{p:Pg}(h:PgAs w cs p):∀u∈cs.toList,u.oneCell'=true:=by obtain⟨v,rfl,h2,_⟩:=h.ex;intro u hu;simp[pcs] at hu;rcases hu with rfl|rfl|rfl|rfl|rfl|rfl<;>first|rfl|assumption
theorem xw(w:World):CellsAt w (.slice none 0 0) ([]:List Bs).length 1 (([]:List Bs).map stv):=⟨⟨none,0,rfl,Nat.le_refl _,by simp[maxLen],λ_=>⟨rfl,rfl⟩,λj u hj=>by simp at hj⟩,rfl⟩
theorem GY(w:World):PgAs w (pcs pg0 (.slice none 0 0)) pg0:=⟨⟨_,rfl,rfl,xw w⟩,by simp[pg0],by simp[pg0,In]⟩
def PB(w:World)(g:Nat)(p:Pg)(v:Value):Prop:=w.heap[g]?=some (.cells (pcs p v) 68)
section
variable{S:Nat->Prop}{w w':World}{g:Nat}{p:Pg}{v:Value}
theorem PB.keep(h:PB w g p v)(hf:Fm S w w')(hs:¬S g):PB w' g p v:=hf.heap h hs
theorem PB.c0(h:PB w g p v):w.cell? ⟨g,0,none⟩=some (iv p.lsn):=by rw[ab h];rfl
theorem PB.c1(h:PB w g p v):w.cell? ⟨g,1,none⟩=some (iv p.kind):=by rw[ab h];rfl
theorem PB.c2(h:PB w g p v):w.cell? ⟨g,2,none⟩=some (iv p.level):=by rw[ab h];rfl
theorem PB.c3(h:PB w g p v):w.cell? ⟨g,3,none⟩=some (iv p.right):=by rw[ab h];rfl
theorem PB.c4(h:PB w g p v):w.cell? ⟨g,4,none⟩=some (stv p.high):=by rw[ab h];rfl
theorem PB.c5(h:PB w g p v):w.cell? ⟨g,5,none⟩=some v:=by rw[ab h];rfl
theorem PB.all(h:PB w g p v):aM w ⟨g,0,none⟩ 6=some (.agg (pcs p v)):=aa h rfl
theorem PB.lt(h:PB w g p v):g<w.heap.size:=aj h
end
theorem zm(a b:Int):IntKind.i64.wrap (IntKind.i64.wrap a+b)=IntKind.i64.wrap (a+b):=by unfold IntKind.wrap;simp[IntKind.bits,IntKind.signed];omega
def AI(p:Pg)(i:Nat):Nat:=(p.items.take i).foldl (λn it=>n+(2+it.length)) (20+p.high.length)
theorem yh(p:Pg):AI p p.items.length=bt p:=by unfold AI bt;rw[List.take_length]
theorem yi(p:Pg){i:Nat}{x:Bs}(h:p.items[i]?=some x):AI p (i+1)=AI p i+(2+x.length):=kx _ _ h
theorem uO{w:World}{cs:Array Value}{p:Pg}(h:PgAs w cs p)(hn:p.items.length<=255):bt p<=40000000000000000:=by
 have key:∀(l:List Bs) (n:Nat),(∀x∈l,x.length<=140737488355328)->l.foldl (λn it=>n+(2+it.length)) n<=n+l.length*140737488355330:=by
  intro l;induction l with
  | nil=>intro n _;simp
  | cons x l ih=>intro n hx;have:=ih (n+(2+x.length)) (λy hy=>hx y (List.mem_cons_of_mem _ hy));have:=hx x (by simp);simp only[List.foldl_cons,List.length_cons];omega
 have:=key p.items (20+p.high.length) h.small;have:=h.ins;unfold bt;omega
theorem ln{w:World}{cs:Array Value}{p:Pg}(h:PgAs w cs p):Cl prog 250 [.agg cs] w λr w'=>r=iv (IntKind.i64.wrap (bt p))/\Fm (λ_=>False) w w':=by
 obtain⟨v,rfl,_,hc⟩:=h.ex;have hi:=h.ins;have hlt:=hc.lt;unfold maxLen at hlt;refine c250 ?_;refine ae ?_;intro g w1 hg hs1 hw1 hf1
 replace hw1:PB w1 g p v:=hw1
 have e0:IntKind.i64.wrap (20+(p.high.length:Int))=((20+p.high.length:Nat):Int):=by rw[af]<;>omega
 have hlen:=hc.lenV;simp only[RS,hw1.c4,aq,e0,hw1.c5,hlen];refine⟨λvs w2=>∃i:Nat,vs=[iv (IntKind.i64.wrap (AI p i:Nat)),iv i]/\i<=p.items.length/\w2=w1,λvs _=>(p.items.length - nth vs 1).toNat,⟨0,by rw[show AI p 0=20+p.high.length by simp[AI],af (by omega)];rfl,by omega,rfl⟩,?_⟩;rintro _ w2 nv ivv ⟨i,hvs,hi2,rfl⟩;cases hvs;by_cases hl:i<p.items.length
 ·have e1:decide ((i:Int)<(p.items.length:Int))=true:=by rw[decide_eq_true_eq];omega
  have e2:IntKind.i64.wrap ((i:Int)+1)=((i+1:Nat):Int):=by rw[af]<;>omega
  have hx:p.items[i]?=some p.items[i]:=List.getElem?_eq_getElem hl;have hxm:p.items[i]∈p.items:=List.getElem_mem hl;generalize p.items[i]=x at hx hxm;have hxl:=h.small x hxm;obtain⟨ad,hix,_,hcx⟩:=(hc.keep hf1 iT).j4 (i:=i) (x:=stv x) (by rw[List.getElem?_map,hx];rfl) .i64;have e3:IntKind.i64.wrap (2+(x.length:Int))=((2+x.length:Nat):Int):=by rw[af]<;>omega
  have e4:IntKind.i64.wrap (IntKind.i64.wrap (AI p i:Nat)+((2+x.length:Nat):Int))=IntKind.i64.wrap (AI p (i+1):Nat):=by rw[zm,yi p hx];congr 1
  simp only[RS,e1,hix,hcx,aq,e3,e4,e2];exact⟨⟨i+1,rfl,by omega,(by trivial)⟩,by simp only[cN];omega⟩
 ·obtain rfl:i=p.items.length:=by omega
  have e1:decide (((p.items.length:Nat):Int)<(p.items.length:Int))=false:=by simp
  simp only[RS,e1];exact⟨by rw[yh],hf1⟩
def eW(p:Pg):Bool:=decide (p.items.length<=255)&&decide (bt p<=512)
theorem oT{w:World}{cs:Array Value}{p:Pg}(h:PgAs w cs p):Cl prog 158 [.agg cs] w λr w'=>r=.bool (eW p)/\Fm (λ_=>False) w w':=by
 obtain⟨v,hcs,_,hc⟩:=h.ex;refine c158 ?_;refine ae ?_;intro g w1 hg hs1 hw1 hf1;have hb:PB w1 g p v:=by rw[PB,<- hcs];exact hw1
 have hall:=hb.all;rw[<- hcs] at hall;have hlen:=hc.lenV;have d1:decide ((p.items.length:Int)<=255)=decide (p.items.length<=255):=by rw[decide_eq_decide];omega
 unfold eW;simp only[RS,hb.c5,hlen,d1];cases hd:decide (p.items.length<=255) with
 | false=>simp only[RS,Bool.false_and];exact⟨(by trivial),hf1⟩
 | true=>
  have hsb:=uO h (by simpa using hd);simp only[RS,hall];refine(ln (h.keep hf1)).mono ?_;rintro _ w2 ⟨rfl,hf2⟩;have d2:decide (IntKind.i64.wrap (bt p)<=512)=decide (bt p<=512):=by rw[dJ (by omega),decide_eq_decide];omega
  simp only[RS,d2,Bool.true_and];exact⟨(by trivial),Fmf hf1 hf2⟩
def eS(p:Pg):Bool:=decide (p.lsn<0\/p.level<0\/p.right<0\/p.kind<1\/3<p.kind\/255<p.level\/4294967295<p.right)
def oZ(p:Pg):Bool:=decide (255<p.high.length\/255<p.items.length\/512<bt p)
theorem ra(p:Pg):pErr p=bif eS p then 4 else bif oZ p then 3 else 0:=rfl
def tV(p:Pg):Value:=.tuple #[stv (pEnc p).1,iv (pEnc p).2]
theorem tW{p:Pg}(h:eS p=true):tV p=.tuple #[stv [],iv 4]:=by
 have:pErr p=4:=by rw[ra,h];rfl
 unfold tV;rw[jF (by rw[this];decide),this]
theorem xc{p:Pg}(h:eS p=false)(h2:oZ p=true):tV p=.tuple #[stv [],iv 3]:=by
 have:pErr p=3:=by rw[ra,h,h2];rfl
 unfold tV;rw[jF (by rw[this];decide),this]
theorem xY{p:Pg}(h:eS p=false)(h2:oZ p=false):pErr p=0:=by rw[ra,h,h2];rfl
theorem Cs{p:Pg}(h:pErr p=0):tV p=.tuple #[stv (beN 4 (crc (de p))++de p),iv 0]:=by unfold tV;rw[kU h]
theorem xl(a b c:Int):az aQ [iv a,iv b,iv c]=some (iv (if c<(if b<a then b else a) then c else(if b<a then b else a))):=rfl
theorem nb{n:Int}{k:Nat}(h0:0<=n)(h1:1<=k)(h8:k<=8):eX n (k:Int)=beN k n.toNat:=by have:=ep (n:=n.toNat) h1 h8;rw[Int.toNat_of_nonneg h0] at this;exact this
theorem mI{a b:Bs}(h:a.length+b.length<=9223372036854775807):ax TypeDesc.string .add (stv a) (stv b)=some (stv (a++b)):=vY _ a b h
theorem flat_take{l:List Bs}{i:Nat}{x:Bs}(h:l[i]?=some x):(l.take (i+1)).flatMap itB=(l.take i).flatMap itB++itB x:=by rw[List.take_add_one,h,List.flatMap_append];simp
theorem Cx(l:List Bs)(i:Nat):((l.take i).flatMap itB).length<=(l.flatMap itB).length:=by
 have:l.flatMap itB=(l.take i).flatMap itB++(l.drop i).flatMap itB:=by rw[<- List.flatMap_append,List.take_append_drop]
 rw[this,List.length_append];omega
theorem so(l:Bs):In (crc l:Nat)/\IntKind.i64.wrap (crc l:Nat)=((crc l:Nat):Int):=by have:=Bq l;exact⟨by unfold In;omega,dJ (by omega)⟩
theorem cI{w:World}{cs:Array Value}{p:Pg}(h:PgAs w cs p):Cl prog 66 [.agg cs] w λr w'=>r=tV p/\Fm (λ_=>False) w w':=by
 obtain⟨v,rfl,hone,hc⟩:=h.ex;have hin:=h.ins;have hclt:=hc.lt;unfold maxLen at hclt;refine c66 ?_;refine ae ?_;intro x1 w1 hx1 hs1 hw1 hf1
 replace hw1:PB w1 x1 p v:=hw1
 have hc1:=hc.keep hf1 iT;have hlen:=hc.lenV;refine aJ (λvs w2=>vs=[.bool (eS p)]/\w2=w1) ?_ ?_
 ·rintro _ w2 ⟨rfl,rfl⟩ _;refine⟨_,rfl,?_⟩;cases hr:eS p with
  | true=>simp only[RS];exact⟨(tW hr).symm,hf1⟩
  | false=>
  simp only[RS];refine aJ (λvs w3=>vs=[.bool (oZ p)]/\PB w3 x1 p v/\Fm (λ_=>False) w2 w3) ?_ ?_
  ·rintro _ w3 ⟨rfl,hw3,hf3⟩ _;refine⟨_,rfl,?_⟩;have hF3:=Fmf hf1 hf3;cases hl:oZ p with
   | true=>simp only[RS];exact⟨(xc hr hl).symm,hF3⟩
   | false=>
   simp only[RS];have hok:=xY hr hl;obtain⟨⟨b1,b2,b3,b4,b5,b6,b7⟩,b8,b9,b10⟩:=rf hok;have hbl:=kQ p;refine ae ?_;intro b w4 hb hs4 hw4 hf4;have hB4:=Bld.new hw4;have hf5:=Fm.drew (λ_=>False) w4;have hB5:=hB4.keep hf5;have hP4:=hw3.keep hf4 id;have hP5:PB w4.drew x1 p v:=hP4.keep hf5 id;have hF5:Fm (λ_=>False) w w4.drew:=Fmf hF3 (Fmf hf4 hf5);have hxb:x1<b/\w.heap.size<=b:=by have:=hw3.lt;have:=hF3.size;omega
   generalize w4.drew=w5 at hB5 hP5 hF5;have upB:∀{a c:World},Fm (λ_=>False) a c->Fm (λy=>b<=y) a c:=λhf=>hf.mono iE;refine⟨λw=>PB w x1 p v,hP5,?_⟩;simp only[RS,hP4.c0,hP5.c0,true_and];refine⟨iv p.kind,λw6 h6=>?_,?_⟩
   ·simp only[RS,h6.c1];trivial
   refine⟨iv p.level,λw6 h6=>?_,?_⟩
   ·simp only[RS,h6.c2];trivial
   refine⟨iv p.right,λw6 h6=>?_,?_⟩
   ·simp only[RS,h6.c3];trivial
   refine(bu w5 hin.1 8).mono ?_;rintro _ w6 ⟨rfl,hf6⟩;have hP6:=hP5.keep hf6 id;refine⟨hP6,?_⟩;refine(bu w6 hin.2.1 1).mono ?_;rintro _ w7 ⟨rfl,hf7⟩;have hP7:=hP6.keep hf7 id;refine⟨hP7,?_⟩;have g1:eX p.lsn 8=beN 8 p.lsn.toNat:=nb (k:=8) b1 (by omega) (by omega);have g2:eX p.kind 1=beN 1 p.kind.toNat:=nb (k:=1) (by omega) (by omega) (by omega);have g3:eX p.level 1=beN 1 p.level.toNat:=nb (k:=1) b2 (by omega) (by omega);have g4:eX p.right 4=beN 4 p.right.toNat:=nb (k:=4) b3 (by omega) (by omega);rw[g1,g2,mI (by rw[aI,aI];omega)]
   try simp only[RS]
   refine(bu w7 hin.2.2.1 1).mono ?_;rintro _ w8 ⟨rfl,hf8⟩;have hP8:=hP7.keep hf8 id;refine⟨hP8,?_⟩;rw[g3,mI (by simp only[List.length_append,aI];omega)]
   try simp only[RS]
   refine(bu w8 hin.2.2.2.1 4).mono ?_;rintro _ w9 ⟨rfl,hf9⟩;have hP9:=hP8.keep hf9 id;rw[g4,mI (by simp only[List.length_append,aI];omega)]
   try simp only[RS]
   have hF59:=Fmf (Fmf hf6 hf7) (Fmf hf8 hf9);have hB9:=hB5.keep hF59;refine(bU hB9 _ (by simp only[List.length_append,aI,List.length_nil];omega)).mono ?_;rintro _ w10 ⟨hB10,hf10⟩;have hP10:=hP9.keep hf10 (by omega);have hf11:=Fm.drew (λ_=>False) w10;have hB11:=hB10.keep hf11;have hP11:=hP10.keep hf11 id;have hF11:Fm (λ_=>False) w w10.drew:=Fmf (Fm.own (Fmf hF5 hF59) hf10 (λy hy=>by omega)) hf11;generalize w10.drew=w11 at hB11 hP11 hF11;refine⟨λw=>PB w x1 p v,hP11,?_⟩;simp only[RS,hP10.c5,hP11.c5,true_and,hlen];refine⟨stv p.high,λw6 h6=>?_,?_⟩
   ·simp only[RS,h6.c4];trivial
   simp only[RS,aq];refine⟨stv p.high,λw6 h6=>?_,?_⟩
   ·simp only[RS,h6.c4];trivial
   refine(bu w11 (n:=(p.items.length:Nat)) (by unfold In;omega) 1).mono ?_;rintro _ w12 ⟨rfl,hf12⟩;have hP12:=hP11.keep hf12 id;refine⟨hP12,?_⟩;refine(bu w12 (n:=(p.high.length:Nat)) (by unfold In;omega) 1).mono ?_;rintro _ w13 ⟨rfl,hf13⟩;have hP13:=hP12.keep hf13 id;refine⟨hP13,?_⟩;have g5:eX (p.items.length:Nat) 1=beN 1 p.items.length:=ep (n:=p.items.length) (w:=1) (by omega) (by omega);have g6:eX (p.high.length:Nat) 1=beN 1 p.high.length:=ep (n:=p.high.length) (w:=1) (by omega) (by omega);rw[g5,g6,mI (by simp only[List.length_append,aI];omega)]
   try simp only[RS]
   rw[mI (by simp only[List.length_append,aI];omega)]
   try simp only[RS]
   have hB13:=hB11.keep (Fmf hf12 hf13);refine(bU hB13 _ (by simp only[List.length_append,aI,List.length_nil];omega)).mono ?_;rintro _ w14 ⟨hB14,hf14⟩;have hP14:=hP13.keep hf14 (by omega);have hF14:Fm (λ_=>False) w w14:=Fm.own (Fmf hF11 (Fmf hf12 hf13)) hf14 (λy hy=>by omega);have hhead:[]++(beN 8 p.lsn.toNat++beN 1 p.kind.toNat++beN 1 p.level.toNat++beN 4 p.right.toNat)++(beN 1 p.items.length++beN 1 p.high.length++p.high)=lL p:=by simp only[lL,List.nil_append,List.append_assoc]
   rw[hhead] at hB14;simp only[RS,hP14.c5,hlen];refine⟨λvs w15=>∃i:Nat,vs=[iv i]/\i<=p.items.length/\Bld w15 b (lL p++(p.items.take i).flatMap itB)/\PB w15 x1 p v/\Fm (λ_=>False) w w15,λvs _=>(p.items.length - nth vs 0).toNat,⟨0,rfl,by omega,by simpa using hB14,hP14,hF14⟩,?_⟩;rintro _ w15 ivv ⟨i,hvs,hi,hB15,hP15,hF15⟩;cases hvs;have hpl:(dc p).length=(lL p).length+(p.items.flatMap itB).length:=by rw[dc,List.length_append]
   by_cases hlt:i<p.items.length
   ·have e1:decide ((i:Int)<(p.items.length:Int))=true:=by rw[decide_eq_true_eq];omega
    have e2:IntKind.i64.wrap ((i:Int)+1)=((i+1:Nat):Int):=by rw[af]<;>omega
    have hx:p.items[i]?=some p.items[i]:=List.getElem?_eq_getElem hlt;have hxm:p.items[i]∈p.items:=List.getElem_mem hlt;generalize p.items[i]=x at hx hxm;have hxs:=mi b10 x hxm;have hfl:=Cx p.items (i+1);rw[flat_take hx,List.length_append,qR] at hfl;obtain⟨ad,hix,_,hcx⟩:=(hc.keep hF15 iT).j4 (i:=i) (x:=stv x) (by rw[List.getElem?_map,hx];rfl) .i64;simp only[RS,e1,hix,hcx,aq];refine(bu w15 (n:=(x.length:Nat)) (by unfold In;omega) 2).mono ?_;rintro _ w16 ⟨rfl,hf16⟩;have g7:eX (x.length:Nat) 2=beN 2 x.length:=ep (n:=x.length) (w:=2) (by omega) (by omega);rw[g7,mI (by simp only[List.length_append,aI];omega)]
    try simp only[RS]
    refine(bU (hB15.keep hf16) _ (by simp only[List.length_append,aI];omega)).mono ?_;rintro _ w17 ⟨hB17,hf17⟩;simp only[RS,e2];refine⟨⟨i+1,rfl,by omega,?_,(hP15.keep hf16 id).keep hf17 (by omega),Fm.own (Fmf hF15 hf16) hf17 (λy hy=>by omega)⟩,by simp only[ba];omega⟩;rw[flat_take hx,<- List.append_assoc];exact hB17
   ·obtain rfl:i=p.items.length:=by omega
    have e1:decide (((p.items.length:Nat):Int)<(p.items.length:Int))=false:=by simp
    rw[List.take_length,show lL p++p.items.flatMap itB=dc p from rfl] at hB15;simp only[RS,e1];refine(wA hB15).mono ?_;rintro _ w15 ⟨rfl,rfl⟩;have e3:IntKind.i64.wrap (508 - ((dc p).length:Int))=((508 - (dc p).length:Nat):Int):=by rw[af]<;>omega
    simp only[RS,e3];refine(bW w15 (508 - (dc p).length) (by omega)).mono ?_;rintro _ w16 ⟨rfl,hf16⟩;refine(bU (hB15.keep hf16) _ (by rw[cu];omega)).mono ?_;rintro _ w17 ⟨hB17,hf17⟩;rw[show dc p++aH (508 - (dc p).length)=de p from rfl] at hB17;have hF17:=Fm.own (Fmf hF15 hf16) hf17 (λy hy=>by omega);refine(eZ hB17).mono ?_;rintro _ w18 ⟨rfl,hB18,hf18⟩;have htl:=pE b10;refine(jL w18 (de p) (by omega)).mono ?_;rintro _ w18 ⟨rfl,rfl⟩;obtain⟨q1,q2⟩:=so (de p);simp only[RS,bR,q2];refine(bu w18 q1 4).mono ?_;rintro _ w19 ⟨rfl,hf19⟩;refine(eZ (hB18.keep hf19)).mono ?_;rintro _ w20 ⟨rfl,hB20,hf20⟩;have g8:eX (crc (de p):Nat) 4=beN 4 (crc (de p)):=ep (n:=crc (de p)) (w:=4) (by omega) (by omega);rw[g8,mI (by rw[aI];omega)]
    try simp only[RS]
    refine⟨(Cs hok).symm,Fm.own (Fmf (Fm.own hF17 hf18 (λy hy=>by omega)) hf19) hf20 (λy hy=>by omega)⟩
  ·intro jj hjj;have d1:decide ((255:Int)<(p.high.length:Int))=decide (255<p.high.length):=by rw[decide_eq_decide];omega
   have hall:=hw1.all;simp only[RS,hw1.c4,aq,d1];cases hd:decide (255<p.high.length) with
   | true=>
    simp only[RS];refine hjj _ _ ⟨?_,hw1,Fm.refl _ _⟩;have:oZ p=true:=by unfold oZ;rw[decide_eq_true_eq] at hd ⊢;exact .inl hd
    rw[this]
   | false=>
    simp only[RS,hall];refine(oT (p:=p) ⟨⟨v,rfl,hone,hc1⟩,h.small,h.ins⟩).mono ?_;rintro _ w3 ⟨rfl,hf3⟩;simp only[RS];refine hjj _ _ ⟨?_,hw1.keep hf3 id,hf3⟩;congr 2;unfold eW oZ;rw[decide_eq_false_iff_not] at hd;by_cases h1:p.items.length<=255
    ·by_cases h2:bt p<=512
     ·simp[h1,h2];omega
     ·simp[h1,h2];omega
    ·simp[h1];omega
 ·intro jj hjj;have fin:∀b:Bool,eS p=b->jj [.bool b] w1:=λb hb=>hjj _ _ ⟨by rw[hb],rfl⟩;have hmin:decide ((if p.right<(if p.level<p.lsn then p.level else p.lsn) then p.right else(if p.level<p.lsn then p.level else p.lsn))<0)=decide (p.lsn<0\/p.level<0\/p.right<0):=by rw[decide_eq_decide];split<;>split<;>omega
  simp only[RS,hw1.c0,hw1.c2,hw1.c3,xl,hmin];cases h1:decide (p.lsn<0\/p.level<0\/p.right<0) with
  | true=>simp only[RS];exact fin _ (by unfold eS;simp only[decide_eq_true_eq] at *;omega)
  | false=>
  simp only[RS,hw1.c1];cases h2:decide (p.kind<1) with
  | true=>simp only[RS];exact fin _ (by unfold eS;simp only[decide_eq_true_eq] at *;omega)
  | false=>
  simp only[RS,hw1.c1];cases h3:decide (3<p.kind) with
  | true=>simp only[RS];exact fin _ (by unfold eS;simp only[decide_eq_true_eq] at *;omega)
  | false=>
  simp only[RS,hw1.c2];cases h4:decide (255<p.level) with
  | true=>simp only[RS];exact fin _ (by unfold eS;simp only[decide_eq_true_eq] at *;omega)
  | false=>
  simp only[RS,hw1.c3];refine fin _ ?_;unfold eS;rw[decide_eq_decide];simp only[decide_eq_false_iff_not] at *;omega
structure PgOw (w : World) (base : Nat) (cs : Array Value) (p : Pg) : Prop where
 ex : ∃ v, cs = pcs p v ∧ w.ownsRow base 9 1 v p.items.length (p.items.map stv)
 small : ∀ x ∈ p.items, x.length ≤ 140737488355328
 ins : In p.lsn ∧ In p.kind ∧ In p.level ∧ In p.right ∧ p.high.length ≤ 140737488355328 ∧ p.items.length * 16 ≤ 140737488355328
theorem PgOw.as{w:World}{base:Nat}{cs:Array Value}{p:Pg}(h:PgOw w base cs p):PgAs w cs p:=by obtain⟨v,h1,h2⟩:=h.ex;exact⟨⟨v,h1,aB h2,CellsAt.aT h2⟩,h.small,h.ins⟩
theorem PgOw.keep{w w':World}{base:Nat}{cs:Array Value}{p:Pg}(h:PgOw w base cs p)(hf:Fm (λ_=>False) w w'):PgOw w' base cs p:=by obtain⟨v,h1,h2⟩:=h.ex;exact⟨⟨v,h1,ah h2 hf (λ_ _ _ _ e=>e)⟩,h.small,h.ins⟩
theorem PgOw.zero(w:World)(base:Nat):PgOw w base (pcs pg0 (.slice none 0 0)) pg0:=⟨⟨_,rfl,World.ownsRow_nil _ _ _ _⟩,by simp[pg0],by simp[pg0,In]⟩
theorem gR(w:World):(Instr.build 68 #[]).run prog w=.ok (.agg (pcs pg0 (.slice none 0 0))) w:=by kernel_rfl
theorem wu(a b c d:Int)(w:World):(Instr.build 68 #[(0,iv a),(1,iv b),(2,iv c),(3,iv d)]).run prog w=.ok (.agg (pcs ⟨a,b,c,d,[],[]⟩ (.slice none 0 0))) w:=by kernel_rfl
theorem Ej:lI prog 68=some true:=by kernel_rfl
theorem BQ:bN prog 68=some 6:=by kernel_rfl
theorem Db{w:World}{g i j:Nat}{cs:Array Value}{u:Value}(h:w.heap[g]?=some (.cells cs 68))(hn:cs.size=6){f:Fr}(hf:f i=pv g)(hj:f j=u)(k:KV)(hk:k (.tuple #[.agg cs,u]) w):ch (bO prog f w [.cell i 68,.tmp j]) w k:=by
 have hj':pO prog f w (.tmp j)=some u:=by simp only[pO,hj]
 simp only[bO,eH hf Ej BQ h hn,hj',ch,vD];exact hk
theorem dG{d:Bs}{k:Nat}(h:k<d.length):ixS (stv d) (.int .i64 k)=some (.int .u8 ((d.getD k 0).toNat:Nat)):=by
 have:d[k]?=some (d.getD k 0):=by rw[List.getD_eq_getElem?_getD,List.getElem?_eq_getElem h];rfl
 exact iW this .i64
theorem tw(b:UInt8):IntKind.i64.wrap (b.toNat:Nat)=((b.toNat:Nat):Int):=by have:=b.toNat_lt;exact dJ (by omega)
def SB(w:World)(g:Nat)(s:Bs):Prop:=w.heap[g]?=some (.cells #[stv s] 9)
theorem SB.keep{S:Nat->Prop}{w w':World}{g:Nat}{s:Bs}(h:SB w g s)(hf:Fm S w w')(hs:¬S g):SB w' g s:=hf.heap h hs
theorem SB.c{w:World}{g:Nat}{s:Bs}(h:SB w g s):w.cell? ⟨g,0,none⟩=some (stv s):=by rw[ab h];rfl
theorem jA{w:World}{g:Nat}{s:Bs}(h:SB w g s)(n:Nat):Cl prog 344 [pv g,iv n] w λr w'=>r=.tuple #[stv (bif decide (n<=s.length) then s.take n else[]),.bool (decide (n<=s.length))]/\SB w' g (bif decide (n<=s.length) then s.drop n else s)/\Fm (·=g) w w':=by
 refine c344 ?_;have d1:decide ((s.length:Int)<(n:Int))=!decide (n<=s.length):=by
  by_cases hn:n<=s.length
  ·simp[hn]
  ·simp[hn];omega
 simp only[RS,h.c,aq,d1];cases hd:decide (n<=s.length) with
 | false=>simp only[RS];exact⟨(by trivial),h,Fm.refl _ _⟩
 | true=>rw[decide_eq_true_eq] at hd;simp only[RS,h.c,gn hd .i64,eT hd .i64];refine au h (by show 0<1;decide) rfl ?_;intro w2 hw2 hs2 hf2;exact⟨rfl,hw2,hf2⟩
theorem AB{d:Bs}(h:d.length≠512):dK d=(pg0,31):=by unfold dK;rw[show decide (d.length≠512)=true by simpa using h];rfl
theorem AC{d:Bs}(h:d.length=512)(h2:beN 4 (crc (d.drop 4))≠d.take 4):dK d=(pg0,30):=by unfold dK;rw[show decide (d.length≠512)=false by simpa using h,show decide (beN 4 (crc (d.drop 4))≠d.take 4)=true by rw[decide_eq_true_eq];exact h2];rfl
theorem pB{d:Bs}(h:d.length=512)(h2:beN 4 (crc (d.drop 4))=d.take 4)(h3:bZ (cy d) (gz d)=none):dK d=(pg0,31):=by unfold dK;rw[show decide (d.length≠512)=false by simpa using h,show decide (beN 4 (crc (d.drop 4))≠d.take 4)=false by rw[decide_eq_false_iff_not];exact λe=>e h2,h3];rfl
def Em(d t:Bs):Bool:=decide (t≠aH t.length)||decide (127<(d.getD 4 0).toNat)||decide (cG d<1)||decide (3<cG d)
def gB(d:Bs)(l:List Bs):Pg:=⟨(Br d % 2 ^ 63:Nat),cG d,fe d,gU d,ke d,l⟩
theorem xX{d:Bs}(h:d.length=512)(h2:beN 4 (crc (d.drop 4))=d.take 4){l:List Bs}{t:Bs}(h3:bZ (cy d) (gz d)=some (l,t)):dK d=bif Em d t then(pg0,31) else(gB d l,0):=by
 unfold dK;rw[show decide (d.length≠512)=false by simpa using h,show decide (beN 4 (crc (d.drop 4))≠d.take 4)=false by rw[decide_eq_false_iff_not];exact λe=>e h2,h3];have:Em d t=decide (t≠aH t.length\/127<(d.getD 4 0).toNat\/cG d<1\/3<cG d):=by unfold Em;simp only[Bool.decide_or,Bool.or_assoc]
 rw[this];rfl
theorem Ai{d:Bs}(h:d.length=512){l:List Bs}(hl:l.length<=255):In (gB d l).lsn/\In (gB d l).kind/\In (gB d l).level/\In (gB d l).right/\(gB d l).high.length<=140737488355328/\(gB d l).items.length*16<=140737488355328:=by
 have h1:cG d<256:=UInt8.toNat_lt _;have h2:fe d<256:=UInt8.toNat_lt _;have h3:gU d<256 ^ 4:=px 4 _ (by rw[List.length_take,List.length_drop];omega);have h4:(ke d).length<=512:=by unfold ke;rw[List.length_take,List.length_drop];omega
 unfold gB In;simp only;omega
theorem kV(n:Nat)(s:Bs):bZ (n+1) s=bif decide (2<=s.length)&&decide (ofB (s.take 2)<=(s.drop 2).length) then(bZ n ((s.drop 2).drop (ofB (s.take 2)))).map (λx=>((s.drop 2).take (ofB (s.take 2))::x.1,x.2)) else none:=by
 rw[bZ];by_cases h1:s.length<2
 ·simp[h1,show ¬2<=s.length by omega]
 ·by_cases h2:(s.drop 2).length<ofB (s.take 2)
  ·have e2:decide (ofB (s.take 2)<=(s.drop 2).length)=false:=by rw[decide_eq_false_iff_not];omega
   have e3:decide (s.length<2)=false:=by rw[decide_eq_false_iff_not];exact h1
   have e4:decide ((s.drop 2).length<ofB (s.take 2))=true:=by rw[decide_eq_true_eq];exact h2
   rw[e2,e3,e4,Bool.and_false];rfl
  ·have e1:decide (2<=s.length)=true:=by rw[decide_eq_true_eq];omega
   have e2:decide (ofB (s.take 2)<=(s.drop 2).length)=true:=by rw[decide_eq_true_eq];omega
   have e3:decide (s.length<2)=false:=by rw[decide_eq_false_iff_not];exact h1
   have e4:decide ((s.drop 2).length<ofB (s.take 2))=false:=by rw[decide_eq_false_iff_not];exact h2
   rw[e1,e2,e3,e4];rfl
def Mid(d:Bs)(i:Nat)(l:List Bs)(s:Bs):Prop:=l.length=i/\(∀x∈l,x.length<=512)/\s.length<=492/\bZ (cy d) (gz d)=(bZ (cy d - i) s).map (λx=>(l++x.1,x.2))
theorem Mid.zero{d:Bs}(h:d.length=512):Mid d 0 [] (gz d):=by
 refine⟨rfl,by simp,?_,?_⟩
 ·unfold gz;simp only[List.length_drop];omega
 ·rw[Nat.sub_zero];cases bZ (cy d) (gz d)<;>simp
theorem Mid.next{d:Bs}{i:Nat}{l:List Bs}{s:Bs}(h:Mid d i l s)(hi:i<cy d)(h1:2<=s.length)(h2:ofB (s.take 2)<=(s.drop 2).length):Mid d (i+1) (l++[(s.drop 2).take (ofB (s.take 2))]) ((s.drop 2).drop (ofB (s.take 2))):=by
 obtain⟨a,b,c,e⟩:=h;refine⟨by simp[a],?_,?_,?_⟩
 ·intro x hx;rcases List.mem_append.1 hx with hx|hx
  ·exact b x hx
  ·obtain rfl:x=_:=by simpa using hx
   simp only[List.length_take,List.length_drop];omega
 ·simp only[List.length_drop];omega
 ·rw[e,show cy d - i=(cy d - (i+1))+1 by omega,kV,show decide (2<=s.length)=true by simpa using h1,show decide (ofB (s.take 2)<=(s.drop 2).length)=true by simpa using h2];simp only[Bool.and_true,cond_true,Option.map_map];congr 1;funext x;simp
theorem Mid.stop{d:Bs}{i:Nat}{l:List Bs}{s:Bs}(h:Mid d i l s)(hi:i<cy d)(h1:¬(2<=s.length/\ofB (s.take 2)<=(s.drop 2).length)):bZ (cy d) (gz d)=none:=by
 rw[h.2.2.2,show cy d - i=(cy d - (i+1))+1 by omega,kV];have:(decide (2<=s.length)&&decide (ofB (s.take 2)<=(s.drop 2).length))=false:=by rw[<- Bool.not_eq_true,Bool.and_eq_true,decide_eq_true_eq,decide_eq_true_eq];exact h1
 rw[this];rfl
theorem Mid.last{d:Bs}{l:List Bs}{s:Bs}(h:Mid d (cy d) l s):bZ (cy d) (gz d)=some (l,s):=by rw[h.2.2.2,Nat.sub_self,bZ];simp
theorem HV(x:Bs)(w:World):(Instr.buildSlice 66 1 #[(0,stv x)]).run prog w=.ok (.slice (some ⟨w.heap.size,0,none⟩) 1 1) (w.alloc (.cells #[stv x] 9)):=by kernel_rfl
theorem kg(w:World)(d:Bs)(hd:d.length<=9223372036854775806):Cl prog 282 [stv d] w λr w'=>∃cs,r=.tuple #[.agg cs,iv (dK d).2]/\PgOw w' w.heap.size cs (dK d).1/\Fm (λ_=>False) w w':=by
 refine c282 ?_;refine ae ?_;intro x2 w1 hx2 hs1 hw1 hf1;have ret:∀(w':World) (cs0:Array Value) (e:Int) (f:Fr),w'.heap[x2]?=some (.cells cs0 68)->cs0.size=6->Fm (λ_=>False) w w'->f 2=pv x2->f 3=iv e->dK d=(pg0,e) ->
   ((∀w'':World,w''.heap[x2]?=some (.cells (pcs pg0 (.slice none 0 0)) 68)->Fm (λ_=>False) w w''->ch (bO prog f w'' [.cell 2 68,.tmp 3]) w'' (λr w'=>∃cs,r=.tuple #[.agg cs,iv (dK d).2]/\PgOw w' w.heap.size cs (dK d).1/\Fm (λ_=>False) w w'))):=by
  intro w' cs0 e f h1 h2 h3 h4 h5 h6 w'' h7 h8;refine Db (u:=iv e) h7 rfl h4 h5 _ ?_;rw[h6];exact⟨_,rfl,PgOw.zero _ _,h8⟩
 have d0:decide ((d.length:Int)=512)=decide (d.length=512):=by rw[decide_eq_decide];omega
 simp only[RS,aq,aG,d0];cases h0:decide (d.length=512) with
 | false=>
  have hne:d.length≠512:=by simpa using h0
  simp only[RS];refine ag (gR _) ?_;refine ao hw1 rfl rfl (by intro u hu;simp[pcs] at hu;rcases hu with rfl|rfl|rfl|rfl|rfl|rfl<;>rfl) ?_;intro w2 hw2 hs2 hf2;exact ret w1 _ 31 _ hw1 rfl hf1 rfl rfl (AB hne) w2 hw2 (Fm.own hf1 hf2 (by rintro y rfl;omega))
 | true=>
 have h512:d.length=512:=by simpa using h0
 have s1:slS (stv d) (some (Value.int .i64 4)) none=some (stv (d.drop 4)):=eT (i:=4) (by omega) .i64;have s2:slS (stv d) none (some (Value.int .i64 4))=some (stv (d.take 4)):=gn (i:=4) (by omega) .i64;have hf2:=Fm.drew (λ_=>False) w1;have hx2':w1.drew.heap[x2]?=some (.cells #[iv 0,iv 0,iv 0,iv 0,stv [],.slice none 0 0] 68):=hw1;have hF2:=Fmf hf1 hf2;simp only[RS,s1,s2];generalize w1.drew=w2 at hf2 hx2' hF2;refine(jL w2 (d.drop 4) (by rw[List.length_drop];omega)).mono ?_;rintro _ w2 ⟨rfl,rfl⟩;obtain⟨q1,q2⟩:=so (d.drop 4);simp only[RS,bR,q2];refine(bu w2 q1 4).mono ?_;rintro _ w3 ⟨rfl,hf3⟩;have g8:eX (crc (d.drop 4):Nat) 4=beN 4 (crc (d.drop 4)):=ep (n:=crc (d.drop 4)) (w:=4) (by omega) (by omega);have hx3:=hf3.heap hx2' id;have hF3:=Fmf hF2 hf3;rw[g8];simp only[RS,bn];cases hsum:decide (beN 4 (crc (d.drop 4))=d.take 4) with
 | false=>
  have hne:beN 4 (crc (d.drop 4))≠d.take 4:=by simpa using hsum
  simp only[RS];refine ag (gR _) ?_;refine ao hx3 rfl rfl (by intro u hu;simp[pcs] at hu;rcases hu with rfl|rfl|rfl|rfl|rfl|rfl<;>rfl) ?_;intro w4 hw4 hs4 hf4;exact ret w3 _ 30 _ hx3 rfl hF3 rfl rfl (AC h512 hne) w4 hw4 (Fm.own hF3 hf4 (by rintro y rfl;omega))
 | true=>
 have hse:beN 4 (crc (d.drop 4))=d.take 4:=by simpa using hsum
 simp only[RS];have hx2s:x2=w.heap.size:=hx2;refine aJ (λvs w4=>∃g4,vs=[pv g4]/\PB w4 g4 ⟨(Br d % 2 ^ 63:Nat),cG d,fe d,gU d,[],[]⟩ (.slice none 0 0)/\g4≠x2/\w.heap.size<=g4/\w4.heap[x2]?=some (.cells #[iv 0,iv 0,iv 0,iv 0,stv [],.slice none 0 0] 68)/\Fm (λ_=>False) w w4) ?_ ?_
 ·rintro _ w4 ⟨g4,rfl,hP4,hne4,hge4,hx4,hF4⟩ _;refine⟨_,rfl,?_⟩;have s3:slS (stv d) (some (Value.int .i64 20)) none=some (stv (d.drop 20)):=eT (i:=20) (by omega) .i64;have i19:ixS (stv d) (Value.int .i64 19)=some (.int .u8 ((dHl d:Nat))):=dG (k:=19) (by omega);have i18:ixS (stv d) (Value.int .i64 18)=some (.int .u8 ((cy d:Nat))):=dG (k:=18) (by omega);have c19:IntKind.i64.wrap (dHl d:Nat)=((dHl d:Nat):Int):=tw _;have c18:IntKind.i64.wrap (cy d:Nat)=((cy d:Nat):Int):=tw _;have hhl:dHl d<256:=UInt8.toNat_lt _;have hmy:cy d<256:=UInt8.toNat_lt _;have hg4l:=hP4.lt;simp only[RS,s3];refine ae ?_;intro x5 w5 hx5 hs5 hw5 hf5;refine au hw5 (by show 0<1;decide) rfl ?_;intro w6 hw6 hs6 hf6
  replace hw6:SB w6 x5 (d.drop 20):=hw6
  have hf46:Fm (λ_=>False) w4 w6:=Fm.own hf5 hf6 (by rintro y rfl;omega);have hP6:=hP4.keep hf46 id;have hx6:=hf46.heap hx4 id;have hF6:=Fmf hF4 hf46;have hz4:=hF4.size;have hx2l:=aj hx4;simp only[RS,i19,bR,c19];refine(jA hw6 (dHl d)).mono ?_;rintro _ w7 ⟨rfl,hS7,hf7⟩;have hle:decide (dHl d<=(d.drop 20).length)=true:=by rw[decide_eq_true_eq,List.length_drop];omega
  rw[hle,cond_true] at hS7;rw[hle,cond_true];have hP7:=hP6.keep hf7 (by omega);have hx7:=hf7.heap hx6 (by omega);have hF7:Fm (λ_=>False) w w7:=Fm.own hF6 hf7 (by rintro y rfl;omega);simp only[RS];refine au hP7 (by show 4<6;decide) rfl ?_;intro w8 hw8 hs8 hf8
  replace hw8:PB w8 g4 (gB d []) (.slice none 0 0):=hw8
  have hS8:SB w8 x5 (gz d):=hS7.keep hf8 (by omega);have hx8:=hf8.heap hx7 (λe=>hne4 e.symm);have hF8:Fm (λ_=>False) w w8:=Fm.own hF7 hf8 (by rintro y rfl;omega);have hl6:=hw6.keep hf7;have hz6:x5<w8.heap.size:=aj hS8;simp only[RS,i18,bR,c18];refine⟨λvs w9=>∃(i:Nat) (l:List Bs) (s:Bs) (v:Value),vs=[iv i]/\i<=cy d/\Mid d i l s/\PB w9 g4 (gB d l) v/\w9.ownsRow (x5+1) 9 1 v l.length (l.map stv)/\SB w9 x5 s/\w9.heap[x2]?=some (.cells #[iv 0,iv 0,iv 0,iv 0,stv [],.slice none 0 0] 68)/\Fm (λ_=>False) w w9,λvs _=>(cy d - nth vs 0).toNat,
   ⟨0,[],gz d,_,rfl,by omega,Mid.zero h512,hw8,World.ownsRow_nil _ _ _ _,hS8,hx8,hF8⟩,?_⟩
  rintro _ w9 ivv ⟨i,l,s,v,hvs,hi,hM,hP9,hO9,hS9,hx9,hF9⟩;cases hvs;have hll:=hM.1;have hz9:x5<w9.heap.size:=aj hS9;have hg9:=hP9.lt;have hx29:=aj hx9;by_cases hlt:i<cy d
  ·have e1:decide ((i:Int)<(cy d:Int))=true:=by rw[decide_eq_true_eq];omega
   have e2:IntKind.i64.wrap ((i:Int)+1)=((i+1:Nat):Int):=by rw[af]<;>omega
   simp only[RS,e1];refine(jA hS9 2).mono ?_;rintro _ w10 ⟨rfl,hS10,hf10⟩;have hP10:=hP9.keep hf10 (by omega);have hx10:=hf10.heap hx9 (by omega);have hF10:Fm (λ_=>False) w w10:=Fm.own hF9 hf10 (by rintro y rfl;omega);have hO10:=ah hO9 hf10 (λk h1 h2 h3 e=>by omega);by_cases h2:2<=s.length
   ·have e3:decide (2<=s.length)=true:=by simpa using h2
    rw[e3,cond_true] at hS10;rw[e3,cond_true];have htl:(s.take 2).length=2:=by rw[List.length_take];omega
    simp only[RS];refine(cZ w10 (s.take 2) (by omega)).mono ?_;rintro _ w10 ⟨rfl,rfl⟩;rw[dY (by omega)];refine(jA hS10 (ofB (s.take 2))).mono ?_;rintro _ w11 ⟨rfl,hS11,hf11⟩;have hP11:=hP10.keep hf11 (by omega);have hx11:=hf11.heap hx10 (by omega);have hF11:Fm (λ_=>False) w w11:=Fm.own hF10 hf11 (by rintro y rfl;omega);have hO11:=ah hO10 hf11 (λk h1 h2 h3 e=>by omega);by_cases h3:ofB (s.take 2)<=(s.drop 2).length
    ·have e4:decide (ofB (s.take 2)<=(s.drop 2).length)=true:=by simpa using h3
     rw[e4,cond_true] at hS11;rw[e4,cond_true];have hM2:=hM.next hlt h2 h3
     generalize (s.drop 2).take (ofB (s.take 2))=it at hM2;generalize (s.drop 2).drop (ofB (s.take 2))=s' at hM2 hS11;simp only[RS,hP11.c5];have hz11:x5<w11.heap.size:=aj hS11;refine dp E22 (by omega) 66 (cs:=[stv it]) rfl (HV _ _) (by intro u hu;simp at hu;subst hu;rfl) hO11 (by unfold maxLen;omega) (by omega) hz11 ?_;intro v12 w12 hO12 _ hf12;have hP12:=hP11.keep hf12 (by omega);have hx12:=hf12.heap hx11 (by omega);have hS12:=hS11.keep hf12 (by omega);have hF12:Fm (λ_=>False) w w12:=Fm.own hF11 hf12 (λy hy=>by omega)
     try simp only[RS]
     refine au hP12 (by show 5<6;decide) (aB hO12) ?_;intro w13 hw13 hs13 hf13
     replace hw13:PB w13 g4 (gB d (l++[it])) v12:=hw13
     simp only[RS,e2];refine⟨⟨i+1,l++[it],s',v12,rfl,by omega,hM2,hw13,?_,hS12.keep hf13 (by omega),hf13.heap hx12 (λe=>hne4 e.symm),Fm.own hF12 hf13 (by rintro y rfl;omega)⟩,by simp only[ba];omega⟩;have:w13.ownsRow (x5+1) 9 1 v12 (l.length+1) (l.map stv++[stv it]):=ah hO12 hf13 (λk h1 h2 h3 e=>by omega);simpa using this
    ·have e4:decide (ofB (s.take 2)<=(s.drop 2).length)=false:=by simpa using h3
     rw[e4];simp only[RS];refine ag (gR _) ?_;refine ao hx11 rfl rfl (by intro u hu;simp[pcs] at hu;rcases hu with rfl|rfl|rfl|rfl|rfl|rfl<;>rfl) ?_;intro w12 hw12 hs12 hf12;exact ret w11 _ 31 _ hx11 rfl hF11 rfl rfl (pB h512 hse (hM.stop hlt (λe=>h3 e.2))) w12 hw12 (Fm.own hF11 hf12 (by rintro y rfl;omega))
   ·have e3:decide (2<=s.length)=false:=by simpa using h2
    rw[e3,cond_false] at hS10;rw[e3,cond_false];simp only[RS];refine(cZ w10 [] (by simp)).mono ?_;rintro _ w10 ⟨rfl,rfl⟩;have eo:ofN []=0:=rfl;rw[eo];refine(jA hS10 0).mono ?_;rintro _ w11 ⟨rfl,hS11,hf11⟩;have hx11:=hf11.heap hx10 (by omega);have hF11:Fm (λ_=>False) w w11:=Fm.own hF10 hf11 (by rintro y rfl;omega);simp only[RS];refine ag (gR _) ?_;refine ao hx11 rfl rfl (by intro u hu;simp[pcs] at hu;rcases hu with rfl|rfl|rfl|rfl|rfl|rfl<;>rfl) ?_;intro w12 hw12 hs12 hf12;exact ret w11 _ 31 _ hx11 rfl hF11 rfl rfl (pB h512 hse (hM.stop hlt (λe=>h2 e.1))) w12 hw12 (Fm.own hF11 hf12 (by rintro y rfl;omega))
  ·have hie:i=cy d:=by omega
   rw[hie] at hM;have e1:decide ((i:Int)<(cy d:Int))=false:=by rw[decide_eq_false_iff_not];omega
   have hds:=xX h512 hse hM.last;simp only[RS,e1,hS9.c];refine(yY w9 s (by have:=hM.2.2.1;omega)).mono ?_;rintro _ w10 ⟨⟨t,rfl,ht⟩,hf10⟩;have hP10:=hP9.keep hf10 id;have hx10:=hf10.heap hx9 id;have hF10:=Fmf hF9 hf10;have hO10:=ah hO9 hf10 (λ_ _ _ _ e=>e);have bad:Em d s=true->RunS prog (Instr.build 68 #[]) w10 (λt93_149 w_150=>
     St 6 w_150 (pv x2) t93_149 λu_151 w_152=>
     ch (bO prog (λj=>bif Nat.beq j 2 then pv x2 else bif Nat.beq j 3 then(Value.int .i64 31) else undef) w_152 [(ResultVar.cell 2 68),(ResultVar.tmp 3)]) w_152 (λr w'=>∃cs,r=.tuple #[.agg cs,iv (dK d).2]/\PgOw w' w.heap.size cs (dK d).1/\Fm (λ_=>False) w w')):=by
    intro hb;rw[hb,cond_true] at hds;refine ag (gR _) ?_;refine ao hx10 rfl rfl (by intro u hu;simp[pcs] at hu;rcases hu with rfl|rfl|rfl|rfl|rfl|rfl<;>rfl) ?_;intro w12 hw12 hs12 hf12;exact ret w10 _ 31 _ hx10 rfl hF10 rfl rfl hds w12 hw12 (Fm.own hF10 hf12 (by rintro y rfl;omega))
   have i4:ixS (stv d) (Value.int .i64 4)=some (.int .u8 (((d.getD 4 0).toNat:Nat))):=dG (k:=4) (by omega);have dk1:decide (((gB d l).kind)<1)=decide (cG d<1):=by rw[decide_eq_decide];unfold gB;simp only;omega
   have dk3:decide (3<(gB d l).kind)=decide (3<cG d):=by rw[decide_eq_decide];unfold gB;simp only;omega
   have d4:decide ((127:Int)<(((d.getD 4 0).toNat:Nat):Int))=decide (127<(d.getD 4 0).toNat):=by rw[decide_eq_decide];omega
   have ht0:decide (t=[])=decide (s=aH s.length):=by rw[decide_eq_decide];exact ht
   simp only[RS,cP,bn,ht0];unfold Em at bad hds;cases b1:decide (s=aH s.length) with
   | false=>
    simp only[RS];refine bad ?_;have:s≠aH s.length:=by simpa using b1
    simp[this]
   | true=>
   have b1':decide (s≠aH s.length)=false:=by simpa using b1
   rw[b1',Bool.false_or] at bad hds;simp only[RS,i4,d4];cases b2:decide (127<(d.getD 4 0).toNat) with
   | true=>simp only[RS];exact bad (by rw[b2];simp)
   | false=>
   rw[b2,Bool.false_or] at bad hds;simp only[RS,hP10.c1,dk1];cases b3:decide (cG d<1) with
   | true=>simp only[RS];exact bad (by rw[b3];simp)
   | false=>
   rw[b3,Bool.false_or] at bad hds;simp only[RS,hP10.c1,dk3];cases b4:decide (3<cG d) with
   | true=>simp only[RS];exact bad b4
   | false=>
   rw[b4,cond_false] at hds;simp only[RS,hP10.all];refine ao hx10 rfl rfl (by intro u hu;simp[pcs] at hu;rcases hu with rfl|rfl|rfl|rfl|rfl|rfl<;>first|rfl|exact aB hO10) ?_;intro w12 hw12 hs12 hf12;refine Db (g:=x2) (i:=2) (j:=3) (u:=iv 0) hw12 rfl rfl rfl _ ?_;rw[hds];refine⟨_,rfl,⟨⟨v,rfl,aU (ah hO10 hf12 (λk h1 h2 h3 e=>by omega)) (by omega)⟩,λx hx=>by have:=hM.2.1 x hx;omega,Ai h512 (by omega)⟩,Fm.own hF10 hf12 (by rintro y rfl;omega)⟩
 ·intro jj hjj;have s4:slS (stv d) (some (Value.int .i64 4)) (some (Value.int .i64 12))=some (stv ((d.drop 4).take 8)):=mJ (i:=4) (j:=12) (by omega) (by omega) .i64 .i64;have s5:slS (stv d) (some (Value.int .i64 14)) (some (Value.int .i64 18))=some (stv ((d.drop 14).take 4)):=mJ (i:=14) (j:=18) (by omega) (by omega) .i64 .i64;have i12:ixS (stv d) (Value.int .i64 12)=some (.int .u8 ((cG d:Nat))):=dG (k:=12) (by omega);have i13:ixS (stv d) (Value.int .i64 13)=some (.int .u8 ((fe d:Nat))):=dG (k:=13) (by omega);have c12:IntKind.i64.wrap (cG d:Nat)=((cG d:Nat):Int):=tw _;have c13:IntKind.i64.wrap (fe d:Nat)=((fe d:Nat):Int):=tw _;have o1:ofN ((d.drop 4).take 8)=Br d % 2 ^ 63:=rfl;have o2:ofN ((d.drop 14).take 4)=gU d:=dY (by rw[List.length_take];omega);have l1:((d.drop 4).take 8).length<=9223372036854775806:=by rw[List.length_take];omega
  have l2:((d.drop 14).take 4).length<=9223372036854775806:=by rw[List.length_take];omega
  have hf4:=Fm.drew (λ_=>False) w3;have hx4:w3.drew.heap[x2]?=some (.cells #[iv 0,iv 0,iv 0,iv 0,stv [],.slice none 0 0] 68):=hx3;have hF4:=Fmf hF3 hf4;have hz4:=hF4.size;have hx2l:=aj hx4;refine⟨λ_=>True,trivial,?_⟩;simp only[RS,s4,s5,i12,i13,bR,c12,c13,true_and,and_true];generalize w3.drew=w4 at hf4 hx4 hF4 hz4 hx2l;have fin:∀(g:Nat) (w5 w6:World),w4.heap.size<=g->Fm (λ_=>False) w4 w5->w5.heap[g]?=some (.cells #[iv 0,iv 0,iv 0,iv 0,stv [],.slice none 0 0] 68)->w6.heap[g]?=some (.cells (pcs ⟨(Br d % 2 ^ 63:Nat),cG d,fe d,gU d,[],[]⟩ (.slice none 0 0)) 68)->Fm (·=g) w5 w6->jj [pv g] w6:=by intro g w5 w6 h1 h2 h3 h4 h5;exact hjj _ _ ⟨g,rfl,h4,by omega,by omega,h5.heap (h2.heap hx4 id) (by omega),Fm.own (Fmf hF4 h2) h5 (by rintro y rfl;omega)⟩
  have lay:∀u∈(pcs ⟨(Br d % 2 ^ 63:Nat),cG d,fe d,gU d,[],[]⟩ (.slice none 0 0)).toList,u.oneCell'=true:=by intro u hu;simp[pcs] at hu;rcases hu with rfl|rfl|rfl|rfl|rfl|rfl<;>rfl
  refine⟨?_,?_⟩
  ·refine(cZ w4 _ l1).mono ?_;rintro _ w4 ⟨rfl,rfl⟩;rw[o1];refine⟨?_,?_⟩
   ·refine(cZ w4 _ l2).mono ?_;rintro _ w4 ⟨rfl,rfl⟩;rw[o2];refine⟨_,λw5 _=>ag (wu _ _ _ _ _) ⟨rfl,rfl⟩,?_⟩;refine ae ?_;intro g w5 hg hs5 hw5 hf5;refine ao hw5 rfl rfl lay ?_;intro w6 hw6 hs6 hf6;exact fin g w5 w6 (by omega) hf5 hw5 hw6 hf6
   ·refine ae ?_;intro g w5 hg hs5 hw5 hf5;refine(cZ w5 _ l2).mono ?_;rintro _ w5 ⟨rfl,rfl⟩;rw[o2];refine ag (wu _ _ _ _ _) ⟨rfl,?_⟩;refine ao hw5 rfl rfl lay ?_;intro w6 hw6 hs6 hf6;exact fin g w5 w6 (by omega) hf5 hw5 hw6 hf6
  ·refine ae ?_;intro g w5 hg hs5 hw5 hf5;refine(cZ w5 _ l1).mono ?_;rintro _ w5 ⟨rfl,rfl⟩;rw[o1];refine(cZ w5 _ l2).mono ?_;rintro _ w5 ⟨rfl,rfl⟩;rw[o2];refine ag (wu _ _ _ _ _) ⟨rfl,?_⟩;refine ao hw5 rfl rfl lay ?_;intro w6 hw6 hs6 hf6;exact fin g w5 w6 (by omega) hf5 hw5 hw6 hf6
theorem HG:ElemT prog 57 5 1 1:=bJ Tryz.underlying57 (by kernel_rfl)
theorem EC(x:Int)(w:World):(Instr.buildSlice 57 1 #[(0,.int .u8 x)]).run prog w=.ok (.slice (some ⟨w.heap.size,0,none⟩) 1 1) (w.alloc (.cells #[.int .u8 x] 5)):=by kernel_rfl
theorem HR(s:Bs)(w:World):(Instr.build 411 #[(0,stv s)]).run prog w=.ok (.agg #[stv s,iv 0]) w:=by kernel_rfl
theorem HT(w:World):(Instr.build 391 #[]).run prog w=.ok (.agg #[.slice none 0 0]) w:=by kernel_rfl
def RdAt(w:World)(r:Nat)(s:Bs)(e:Int):Prop:=w.heap[r]?=some (.cells #[stv s,iv e] 411)
theorem RdAt.keep{S:Nat->Prop}{w w':World}{r:Nat}{s:Bs}{e:Int}(h:RdAt w r s e)(hf:Fm S w w')(hs:¬S r):RdAt w' r s e:=hf.heap h hs
theorem RdAt.c0{w:World}{r:Nat}{s:Bs}{e:Int}(h:RdAt w r s e):w.cell? ⟨r,0,none⟩=some (stv s):=by rw[ab h];rfl
theorem RdAt.c1{w:World}{r:Nat}{s:Bs}{e:Int}(h:RdAt w r s e):w.cell? ⟨r,1,none⟩=some (iv e):=by rw[ab h];rfl
theorem RdAt.lt{w:World}{r:Nat}{s:Bs}{e:Int}(h:RdAt w r s e):r<w.heap.size:=aj h
theorem fM(w:World)(s:Bs):Cl prog 286 [stv s] w λv w'=>∃r,v=pv r/\w.heap.size<=r/\RdAt w' r s 0/\Fm (λ_=>False) w w':=by refine c286 ?_;refine ag (HR s w) (ae ?_);intro b w' hb hs hw hf;exact⟨b,rfl,by omega,hw,hf⟩
theorem dP{w:World}{r:Nat}{s:Bs}{e:Int}(h:RdAt w r s e)(x:Int):Cl prog 346 [pv r,iv x] w λv w'=>v=iv 0/\RdAt w' r [] x/\Fm (·=r) w w':=by refine c346 ?_;simp only[RS,aq,cP,bn];refine au h (by simp) rfl ?_;intro w1 h1 _ hf1;refine au h1 (by simp) rfl ?_;intro w2 h2 _ hf2;exact⟨(by trivial),h2,hf1.trans hf2 iT iT⟩
theorem du{w:World}{r:Nat}{s:Bs}{e:Int}(h:RdAt w r s e):Cl prog 323 [pv r] w λv w'=>v=iv e/\w'=w:=by refine c323 ?_;simp only[RS,h.c1,and_self]
theorem tL{w:World}{r:Nat}{s:Bs}{e:Int}(h:RdAt w r s e):Cl prog 347 [pv r] w λv w'=>v=iv s.length/\w'=w:=by refine c347 ?_;simp only[RS,aq,cP,bn,h.c0,and_self]
theorem gP{w:World}{r:Nat}{s:Bs}{e:Int}(h:RdAt w r s e):Cl prog 288 [pv r] w λv w'=>v=iv (vy s e)/\w'=w:=by
 refine c288 ?_;refine(du h).mono ?_;rintro _ w ⟨rfl,rfl⟩;unfold vy;by_cases he:e=0
 ·have e1:(e == 0)=true:=by simpa using he
  simp only[RS,e1];refine(tL h).mono ?_;rintro _ w ⟨rfl,rfl⟩;have e2:decide (e=0)=true:=by simpa using he
  by_cases hs:0<s.length
  ·have e3:decide ((0:Int)<(s.length:Int))=true:=by rw[decide_eq_true_eq];omega
   have e4:decide (0<s.length)=true:=by simpa using hs
   simp only[RS,e3,e2,e4,Bool.and_self,cond_true];exact⟨(by trivial),(by trivial)⟩
  ·have e3:decide ((0:Int)<(s.length:Int))=false:=by rw[decide_eq_false_iff_not];omega
   have e4:decide (0<s.length)=false:=by simpa using hs
   simp only[RS,e3,e2,e4,Bool.and_false,cond_false];refine(du h).mono ?_;rintro _ w ⟨rfl,rfl⟩;exact⟨(by trivial),(by trivial)⟩
 ·have e1:(e == 0)=false:=by simpa using he
  have e2:decide (e=0)=false:=by simpa using he
  simp only[RS,e1,e2,Bool.false_and,cond_false];refine(du h).mono ?_;rintro _ w ⟨rfl,rfl⟩;exact⟨(by trivial),(by trivial)⟩
theorem wC{w:World}{r:Nat}{s:Bs}{e:Int}(h:RdAt w r s e)(most:Int)(hs:s.length<=9223372036854775807)(hm:most<=9223372036854775807):
  Cl prog 321 [pv r,iv most] w λv w'=>v=iv (rdNum most s e).1/\RdAt w' r (rdNum most s e).2.1 (rdNum most s e).2.2/\Fm (·=r) w w':=by
 refine c321 ?_;unfold rdNum;by_cases he:e=0
 ·subst he;simp only[RS,h.c1,bne_self_eq_false,decide_true,cond_true];refine⟨λvs w2=>∃(k n:Nat),vs=[iv n,iv k]/\k<=9/\n<2 ^ (7*k)/\k<=s.length/\rdN most 9 0 0 s=rdN most (9 - k) k n (s.drop k)/\w2=w,λvs _=>(9 - nth vs 1).toNat,⟨0,0,rfl,by omega,by decide,by omega,rfl,rfl⟩,?_⟩;rintro _ w2 in_ ik ⟨k,n,hvs,hk,hn,hks,heq,rfl⟩;cases hvs;by_cases hlt:k<9
  ·have e1:decide ((k:Int)<9)=true:=by rw[decide_eq_true_eq];omega
   obtain⟨f,hf⟩:∃f,9 - k=f+1:=⟨8 - k,by omega⟩;rw[hf] at heq;simp only[RS,aq,cP,bn,e1,h.c0];by_cases hsl:k<s.length
   ·have e2:decide ((s.length:Int)<=(k:Int))=false:=by rw[decide_eq_false_iff_not];omega
    have hb:s[k]?=some s[k]:=List.getElem?_eq_getElem hsl;rw[List.drop_eq_getElem_cons hsl,rdN] at heq;generalize s[k]=b at hb heq;have hb256:b.toNat<256:=b.toNat_lt;have hk63:(2:Nat) ^ (7*k)<=2 ^ 56:=Nat.pow_le_pow_right (by decide) (by omega);have hmod:b.toNat % 128<128:=Nat.mod_lt _ (by decide);have hpr:b.toNat % 128*2 ^ (7*k)<=127*2 ^ 56:=Nat.mul_le_mul (by omega) hk63;have e3:vH .u8 (b.toNat:Int) 127=((b.toNat % 128:Nat):Int):=by have:=El b.toNat 127 hb256 (by decide);rw[Ek] at this;exact this
    have e4:cvI .i64 (.int .u8 ((b.toNat % 128:Nat):Int))=some (iv ((b.toNat % 128:Nat):Int)):=by show some (iv (IntKind.i64.wrap _))=_;rw[dJ (by omega)]
    have e5:IntKind.i64.wrap (7*(k:Int))=((7*k:Nat):Int):=by rw[af]<;>omega
    have e6:=Di (b.toNat % 128) (7*k) (by omega) (by omega) (TypeDesc.int .i64) .i64;have e7:orI .i64 (n:Int) ((b.toNat % 128*2 ^ (7*k):Nat):Int)=((n+b.toNat % 128*2 ^ (7*k):Nat):Int):=by rw[EX _ _ (by omega) (by omega),xT hn]
    have e8:128 ^ k=2 ^ (7*k):=by rw[Nat.pow_mul]
    rw[e8] at heq;have hn':n+b.toNat % 128*2 ^ (7*k)<2 ^ (7*(k+1)):=by
     have h1:2 ^ (7*(k+1))=128*2 ^ (7*k):=by rw[show 7*(k+1)=7*k+7 by omega,Nat.pow_add];omega
     have h2:b.toNat % 128*2 ^ (7*k)<=127*2 ^ (7*k):=Nat.mul_le_mul_right _ (by omega);omega
    generalize n+b.toNat % 128*2 ^ (7*k)=n' at e7 heq hn';have hn62:n'<2 ^ 63:=Nat.lt_of_lt_of_le hn' (Nat.pow_le_pow_right (by decide) (by omega));simp only[RS,aq,cP,bn,e2,iW hb,fL,e3,e4,e5,e6,qu,e7];have ebz:((b.toNat:Int) == 0)=decide (b=0):=by
     rw[aV,decide_eq_decide];constructor
     ·intro h;apply UInt8.toNat.inj;simp;omega
     ·rintro rfl;rfl
    have cont:decide (b=0/\0<k)=false->IfB (.bool (decide ((128:Int)<=(b.toNat:Int))))
      (Pu (ax (TypeDesc.int .i64) .add (iv (k:Nat)) (Value.int .i64 1)) λt73_107=>(∃(k_1 n_1:Nat),[iv (n':Nat),t73_107]=[iv n_1,iv k_1]/\k_1<=9/\n_1<2 ^ (7*k_1)/\k_1<=s.length/\rdN most 9 0 0 s=rdN most (9 - k_1) k_1 n_1 (s.drop k_1)/\w2=w2)/\(9 - nth [iv (n':Nat),t73_107] 1).toNat<(9 - nth [iv (n:Nat),iv (k:Nat)] 1).toNat)
      (Pu (az aP [iv most,(Value.int .i64 0)]) λt58_108=>
      Pu (ax (TypeDesc.int .i64) .gtr (iv (n':Nat)) t58_108) λt59_109=>
      IfB t59_109
       (Cl prog 346 [pv r,(Value.int .i64 11)] w2 λv w'=>v=iv (rdN most 9 0 0 s).1/\RdAt w' r (rdN most 9 0 0 s).2.1 (rdN most 9 0 0 s).2.2/\Fm (·=r) w2 w')
       (Pu (bB (pv r)) λt64_112=>
       Pu (faV 0 t64_112) λt65_113=>
       Ld w2 t65_113 λt66_114 w_115=>
       Pu (ax (TypeDesc.int .i64) .add (iv (k:Nat)) (Value.int .i64 1)) λt68_116=>
       Pu (slS t66_114 (some t68_116) none) λt69_117=>
       Pu (bB (pv r)) λt70_118=>
       Pu (faV 0 t70_118) λt71_119=>
       St 1 w_115 t71_119 t69_117 λu_120 w_121=>
       iv (n':Nat)=iv (rdN most 9 0 0 s).1/\RdAt w_121 r (rdN most 9 0 0 s).2.1 (rdN most 9 0 0 s).2.2/\Fm (·=r) w2 w_121)):=by
     intro hz;simp only[hz,cond_false] at heq;have e9:IntKind.i64.wrap ((k:Int)+1)=((k+1:Nat):Int):=by rw[af]<;>omega
     by_cases hbig:128<=b.toNat
     ·have z1:decide ((128:Int)<=(b.toNat:Int))=true:=by rw[decide_eq_true_eq];omega
      have z2:decide (128<=b.toNat)=true:=by simpa using hbig
      simp only[z2,cond_true] at heq;simp only[RS,z1,e9];exact⟨⟨k+1,n',rfl,by omega,hn',by omega,by rw[heq,show 9 - (k+1)=f by omega],trivial⟩,by simp only[cN];omega⟩
     ·have z1:decide ((128:Int)<=(b.toNat:Int))=false:=by rw[decide_eq_false_iff_not];omega
      have z2:decide (128<=b.toNat)=false:=by simpa using hbig
      have z3:aP (iv most) (iv 0)=some (iv (max most 0)):=by show some (iv (if (0:Int) > most then 0 else most))=_;congr 2;split<;>omega
      simp only[z2,cond_false] at heq;simp only[RS,z1,az,aR,z3,Option.bind_some];by_cases hmx:max most 0<(n':Int)
      ·have z4:decide (max most 0<(n':Int))=true:=by simpa using hmx
       simp only[z4,cond_true] at heq;simp only[RS,z4];refine(dP h 11).mono ?_;rintro _ w3 ⟨rfl,h3,hf3⟩;rw[heq];exact⟨(by trivial),h3,hf3⟩
      ·have z4:decide (max most 0<(n':Int))=false:=by simpa using hmx
       simp only[z4,cond_false] at heq;have z5:=eT (l:=s) (i:=k+1) (by omega) .i64;simp only[RS,z4,h.c0,e9,z5];refine au h (by simp) rfl ?_;intro w3 h3 _ hf3;rw[heq];exact⟨rfl,h3,hf3⟩
    rw[ebz];by_cases hz:b=0
    ·have z1:decide (b=0)=true:=by simpa using hz
     by_cases hkp:0<k
     ·have z2:decide ((0:Int)<(k:Int))=true:=by rw[decide_eq_true_eq];omega
      have z3:decide (b=0/\0<k)=true:=by simp[hz,hkp]
      simp only[z3,cond_true] at heq;simp only[RS,z1,z2];refine(dP h 11).mono ?_;rintro _ w3 ⟨rfl,h3,hf3⟩;rw[heq];exact⟨(by trivial),h3,hf3⟩
     ·have z2:decide ((0:Int)<(k:Int))=false:=by rw[decide_eq_false_iff_not];omega
      have c:=cont (by simp[hkp]);simp only[RS] at c;simp only[RS,z1,z2];exact c
    ·have z1:decide (b=0)=false:=by simpa using hz
     have c:=cont (by simp[hz]);simp only[RS] at c;simp only[RS,z1];exact c
   ·have e2:decide ((s.length:Int)<=(k:Int))=true:=by rw[decide_eq_true_eq];omega
    rw[List.drop_eq_nil_of_le (by omega),rdN] at heq;simp only[RS,e2];refine(dP h 10).mono ?_;rintro _ w3 ⟨rfl,h3,hf3⟩;rw[heq];exact⟨(by trivial),h3,hf3⟩
  ·have hke:k=9:=by omega
   subst hke;have e1:decide (((9:Nat):Int)<9)=false:=rfl;rw[Nat.sub_self,rdN] at heq;simp only[RS,e1];refine(dP h 11).mono ?_;rintro _ w3 ⟨rfl,h3,hf3⟩;rw[heq];exact⟨(by trivial),h3,hf3⟩
 ·have e1:(e != 0)=true:=by rw[aG];simp[he]
  have e2:decide (e=0)=false:=by simpa using he
  simp only[RS,h.c1,e1,e2,cond_false];exact⟨(by trivial),h,Fm.refl _ _⟩
def BH(w:World)(r y:Nat):Prop:=∃v,w.heap[r]?=some (.cells #[v] 391)/\v.ownBlock=some y
def wrM(w:World)(r y:Nat):Prop:=y=r\/BH w r y
structure WrAt (w : World) (r : Nat) (B : Bs) : Prop where
 ex : ∃ v, w.heap[r]? = some (.cells #[v] 391) ∧ w.ownsRow 0 5 1 v B.length (bc B)
theorem WrAt.keep{S:Nat->Prop}{w w':World}{r:Nat}{B:Bs}(h:WrAt w r B)(hf:Fm S w w')(hs:∀y,wrM w r y->¬S y):WrAt w' r B/\∀y,wrM w' r y↔wrM w r y:=by obtain⟨v,hv,ho⟩:=h.ex;have hr:=hf.heap hv (hs r (.inl rfl));refine⟨⟨v,hr,ah ho hf λk _ _ hk=>hs k (.inr ⟨v,hv,hk⟩)⟩,λy=>?_⟩;unfold wrM BH;rw[hr,hv]
theorem WrAt.lt{w:World}{r:Nat}{B:Bs}(h:WrAt w r B):∀y,wrM w r y->y<w.heap.size:=by
 obtain⟨v,hv,ho⟩:=h.ex;rintro y (rfl|⟨v',hv',hy⟩)
 ·exact aj hv
 ·rw[hv] at hv';cases hv';exact(ho.lt y hy).2
theorem wB(w:World):Cl prog 247 [] w λv w'=>v=pv w.heap.size/\WrAt w' w.heap.size []/\(∀y,wrM w' w.heap.size y->y=w.heap.size)/\Fm (λ_=>False) w w':=by
 refine c247 ?_;refine ag (HT w) (ae ?_);intro b w' hb hs hw hf;subst hb;refine⟨rfl,⟨_,hw,World.ownsRow_nil _ _ _ _⟩,?_,hf⟩;rintro y (h|⟨v,hv,hy⟩)
 ·exact h
 ·rw[hw] at hv;cases hv;cases hy
theorem dq{w:World}{r:Nat}{B:Bs}(h:WrAt w r B):Cl prog 249 [pv r] w λv w'=>v=stv B/\w'=w:=by
 obtain⟨v,hv,ho⟩:=h.ex;refine c249 ?_;have c0:w.cell? ⟨r,0,none⟩=some v:=by rw[ab hv];rfl
 simp only[RS,c0];exact ag (sj B38 ho) ⟨rfl,rfl⟩
theorem HC{w:World}{r:Nat}{B:Bs}(h:WrAt w r B)(hl:B.length<=1099511627776)(x:UInt8){k:KV}(hk:∀w',WrAt w' r (B++[x])->Fm (wrM w r) w w'->(∀y,wrM w' r y->wrM w r y\/w.heap.size<=y)->k undef w'):
  Pu (bB (pv r)) λt22_71=>
   Pu (faV 0 t22_71) λt23_72=>
   Ld w t23_72 λt24_73 w_74=>
   RunS prog (Instr.buildSlice 57 1 #[(0,.int .u8 x.toNat)]) w_74 λt28_77 w_78=>
   RunS prog (Builtin.append_ #[57,57] 57 #[t24_73,t28_77]) w_78 λt29_79 w_80=>
   Pu (bB (pv r)) λt30_81=>
   Pu (faV 0 t30_81) λt31_82=>
   St 1 w_80 t31_82 t29_79 k:=by
 obtain⟨v,hv,ho⟩:=h.ex;have c0:w.cell? ⟨r,0,none⟩=some v:=by rw[ab hv];rfl
 have hrlt:=aj hv;simp only[RS,c0];refine lP HG (by omega) 57 (cs:=[.int .u8 x.toNat]) rfl (EC _ _) (by intro u hu;simp at hu;subst hu;rfl) ho (by unfold maxLen;omega) (by omega) (Nat.zero_le _) ?_;intro v' w1 ho1 hcase
 try simp only[RS]
 have hvr:∀g,v.ownBlock=some g->g≠r:=by
  rintro g hg rfl;rcases ho.2 with⟨rfl,_⟩|⟨g',cap,cur,rfl,_,hgg,_⟩
  ·cases hg
  ·have:g'=g:=by simpa[Value.ownBlock] using hg
   subst this;rw[hv] at hgg;cases hgg
 obtain⟨S,hfS,hS1,hS2⟩:∃S:Nat->Prop,Fm S w w1/\(∀y,S y->v.ownBlock=some y)/\(∀g,v'.ownBlock=some g->v.ownBlock=some g\/w.heap.size<=g):=by
  rcases hcase with⟨g,k1,k2,k3⟩|⟨g,k1,k2,k3⟩
  ·exact⟨_,k3,λy hy=>by rw[hy];exact k1,λg' hg'=>by rw[k2] at hg';cases hg';exact .inl k1⟩
  ·exact⟨_,k3,λ_ e=>e.elim,λg' hg'=>by rw[k1] at hg';cases hg';exact .inr k2⟩
 have hv1:=hfS.heap hv (λe=>hvr r (hS1 r e) rfl);refine au hv1 (by simp) (aB ho1) ?_;intro w2 hw2 hs2 hf2;refine hk w2 ⟨v',hw2,?_⟩ (hfS.trans hf2 (λy _ e=>.inr ⟨v,hv,hS1 y e⟩) (λ_ _ e=>.inl e)) ?_
 ·have:=ah ho1 hf2 (λg _ _ hg e=>by
   have e':g=r:=e;rw[e'] at hg;rcases hS2 r hg with h1|h1
   ·exact hvr r h1 rfl
   ·omega)
  rw[List.length_append,dt];exact this
 ·rintro y (h1|⟨v2,hv2,hy⟩)
  ·exact .inl (.inl h1)
  ·replace hw2:w2.heap[r]?=some (.cells #[v'] 391):=hw2
   rw[hw2] at hv2;cases hv2;rcases hS2 y hy with h1|h1
   ·exact .inl (.inr ⟨v,hv,h1⟩)
   ·exact .inr h1
theorem eK(c:Nat):IntKind.u8.wrap (c:Int)=((c % 256:Nat):Int):=by unfold IntKind.wrap;simp[IntKind.bits,IntKind.signed]
def bG(n:Int):Bs:=qm (max n 0).toNat
theorem qh{w:World}{r:Nat}{B:Bs}(h:WrAt w r B){v:Value}{ns:List Int}(hns:CellsAt w v ns.length 1 (ns.map iv))(hblk:ns≠[]->∀g,blockOf v=some g->¬wrM w r g)(hin:∀n∈ns,n<=9223372036854775807)
  (hl:B.length+9*ns.length<=1000000000000):
  Cl prog 248 [pv r,v] w λu w'=>WrAt w' r (B++ns.flatMap bG)/\Fm (wrM w r) w w'/\∀y,wrM w' r y->wrM w r y\/w.heap.size<=y:=by
 refine c248 ?_;simp only[RS,hns.lenV];refine⟨λvs w2=>∃k:Nat,vs=[iv k]/\k<=ns.length/\WrAt w2 r (B++(ns.take k).flatMap bG)/\Fm (wrM w r) w w2/\(∀y,wrM w2 r y->wrM w r y\/w.heap.size<=y),λvs _=>(ns.length - nth vs 0).toNat,⟨0,rfl,by omega,by simpa using h,Fm.refl _ _,λ_ h=>.inl h⟩,?_⟩;rintro _ w2 ik ⟨k,hvs,hk,h2,hf2,hm2⟩;cases hvs;have elen:∀n∈ns,(bG n).length<=9:=λn hn=>(xa (by have:=hin n hn;omega)).2;have hfl:∀l:List Int,(∀n∈l,(bG n).length<=9)->(l.flatMap bG).length<=9*l.length:=by
  intro l;induction l with
  | nil=>intro _;simp
  | cons n l ih=>intro hl;have:=ih (λm hm=>hl m (by simp[hm]));have:=hl n (by simp);simp only[List.flatMap_cons,List.length_append,List.length_cons];omega
 by_cases hlt:k<ns.length
 ·have e1:decide ((k:Int)<(ns.length:Int))=true:=by rw[decide_eq_true_eq];omega
  have hx:ns[k]?=some ns[k]:=List.getElem?_eq_getElem hlt;have hmem:=List.getElem_mem hlt;have hxin:=hin _ hmem;have hel:=elen _ hmem;have hpre:=hfl (ns.take k) (λn hn=>elen n (List.mem_of_mem_take hn));rw[List.length_take,Nat.min_eq_left hk] at hpre;generalize ns[k]=n at hx hxin hel;obtain⟨ad,hix,_,hc⟩:=(hns.gE hf2 (λhne g hg=>hblk (λe=>hne (by rw[e];rfl)) g hg)).j4 (i:=k) (x:=iv n) (by rw[List.getElem?_map,hx];rfl) .i64;have z3:aP (iv n) (iv 0)=some (iv (max n 0)):=by show some (iv (if (0:Int) > n then 0 else n))=_;congr 2;split<;>omega
  simp only[RS,e1,hix,hc,az,aR,z3,Option.bind_some];obtain⟨c0,hc0⟩:=Int.eq_ofNat_of_zero_le (show 0<=max n 0 by omega);have henc:bG n=qm c0:=by unfold bG;rw[hc0];rfl
  rw[hc0];have hpl:(B++(ns.take k).flatMap bG).length<=999999999991:=by rw[List.length_append];omega
  rw[henc] at hel;generalize hP:B++(ns.take k).flatMap bG=P at h2 hpl;refine⟨λvs w3=>∃(c:Nat) (Q:Bs),vs=[iv c]/\c<=9223372036854775807/\WrAt w3 r Q/\Q++qm c=P++qm c0/\Fm (wrM w r) w w3/\(∀y,wrM w3 r y->wrM w r y\/w.heap.size<=y),λvs _=>(nth vs 0).toNat,⟨c0,P,rfl,by omega,h2,rfl,hf2,hm2⟩,?_⟩;rintro _ w3 ic ⟨c,Q,hvs,hcm,h3,hQ,hf3,hm3⟩;cases hvs;have hQl:Q.length<=1000000000000:=by have:=congrArg List.length hQ;rw[List.length_append,List.length_append] at this;omega
  by_cases hbig:127<c
  ·have e2:decide ((127:Int)<(c:Int))=true:=by rw[decide_eq_true_eq];omega
   have e3:cvI .u8 (iv c)=some (.int .u8 ((c % 256:Nat):Int)):=by rw[<- eK];rfl
   have e4:orI .u8 ((c % 256:Nat):Int) 128=(((UInt8.ofNat (c % 128+128)).toNat:Nat):Int):=by have:=GW (c % 256) 128 (by omega) (by decide);rw[GV (by omega),Nat.mod_mod_of_dvd c (by decide)] at this;rw[iI (by omega)];exact this
   have e5:=yK c 7 (by omega) (TypeDesc.int .i64) .u64;simp only[RS,e2,e3,qu,e4];have key:=HC h3 (by omega) (UInt8.ofNat (c % 128+128)) (k:=λu_83 w_84=>Pu (ax (TypeDesc.int .i64) .shr (iv c) (Value.int .u64 7)) λt19_85=>
    (∃(c:Nat) (Q:Bs),[t19_85]=[iv c]/\c<=9223372036854775807/\WrAt w_84 r Q/\Q++qm c=P++qm c0/\Fm (wrM w r) w w_84/\(∀y,wrM w_84 r y->wrM w r y\/w.heap.size<=y))/\(nth [t19_85] 0).toNat<(nth [iv (c:Nat)] 0).toNat) (by
     intro w4 h4 hf4 hm4;have hF4:Fm (wrM w r) w w4:=hf3.trans hf4 iT (λy hy e=>by rcases hm3 y e with h|h;exact h;omega);have hM4:∀y,wrM w4 r y->wrM w r y\/w.heap.size<=y:=λy hy=>by
      rcases hm4 y hy with h|h
      ·exact hm3 y h
      ·have:=hf3.size;exact .inr (by omega)
     have e5':ax (TypeDesc.int .i64) .shr (iv c) (Value.int .u64 7)=some (iv ((c / 2 ^ 7:Nat):Int)):=e5;rw[e5',bH];refine⟨⟨c / 2 ^ 7,_,rfl,by omega,h4,?_,hF4,hM4⟩,by simp only[ba];omega⟩;rw[<- hQ,gX hbig,List.append_assoc];rfl)
   simp only[RS] at key;exact key
  ·have e2:decide ((127:Int)<(c:Int))=false:=by rw[decide_eq_false_iff_not];omega
   have e3:cvI .u8 (iv c)=some (.int .u8 (((UInt8.ofNat c).toNat:Nat):Int)):=by rw[iI (by omega)];have:=eK c;rw[Nat.mod_eq_of_lt (by omega)] at this;show some (Value.int .u8 (IntKind.u8.wrap (c:Int)))=_;rw[this]
   have e6:IntKind.i64.wrap ((k:Int)+1)=((k+1:Nat):Int):=by rw[af]<;>have:=hns.lt<;>unfold maxLen at this<;>omega
   simp only[RS,e2,e3];have key:=HC h3 (by omega) (UInt8.ofNat c) (k:=λu_97 w_98=>Pu (ax (TypeDesc.int .i64) .add (iv (k:Nat)) (Value.int .i64 1)) λt43_99=>
    (∃k:Nat,[t43_99]=[iv k]/\k<=ns.length/\WrAt w_98 r (B++(ns.take k).flatMap bG)/\Fm (wrM w r) w w_98/\(∀y,wrM w_98 r y->wrM w r y\/w.heap.size<=y))/\(ns.length - nth [t43_99] 0).toNat<(ns.length - nth [iv (k:Nat)] 0).toNat) (by
     intro w4 h4 hf4 hm4;have hF4:Fm (wrM w r) w w4:=hf3.trans hf4 iT (λy hy e=>by rcases hm3 y e with h|h;exact h;omega);have hM4:∀y,wrM w4 r y->wrM w r y\/w.heap.size<=y:=λy hy=>by
      rcases hm4 y hy with h|h
      ·exact hm3 y h
      ·have:=hf3.size;exact .inr (by omega)
     rw[sc,bH,e6];refine⟨⟨k+1,rfl,by omega,?_,hF4,hM4⟩,by simp only[ba];omega⟩;have:B++(ns.take (k+1)).flatMap bG=Q++[UInt8.ofNat c]:=by rw[List.take_add_one,hx,List.flatMap_append,<- List.append_assoc,hP];show P++([n].flatMap bG)=_;rw[List.flatMap_cons,List.flatMap_nil,List.append_nil,henc,<- hQ,dm (by omega)]
     rw[this];exact h4)
   simp only[RS] at key;exact key
 ·have hke:k=ns.length:=by omega
  subst hke;have e1:decide (((ns.length:Nat):Int)<(ns.length:Int))=false:=by simp
  rw[List.take_length] at h2;simp only[RS,e1];exact⟨h2,hf2,hm2⟩
structure Rc where
 lsn : Int
 prev : Int
 next : Int
 kind : Int
 xid : Int
 page : Int
 slot : Int
 old : Int
 new : Int
 redo : Int
 data : Bs
 slots : List Int
 more : List Int
 imgs : List (Int × Pg)
 pages : List (Int × Int)
 txns : List (Int × Int)
 deriving DecidableEq
def cz(l:List Int):Bs:=l.flatMap bG
def iM(s:Bs):Bs:=bG s.length++s
def dV(l:List Int):Bs:=bG l.length++cz l
def iG(s:Bs):Bs:=(s.reverse.dropWhile (· == 0)).reverse
def sI(m:Int×Pg):Bs:=bG m.1++iM (iG (pEnc m.2).1)
def prB(p:Int×Int):Bs:=bG p.1++bG p.2
def iU(r:Rc):List Int:=[r.lsn,r.prev,r.next,r.kind,r.xid,r.page,r.slot,r.old,r.new,r.redo]
def fu(r:Rc):Bs:=cz (iU r)++iM r.data++dV r.slots++dV r.more++bG r.imgs.length++r.imgs.flatMap sI++bG r.pages.length++r.pages.flatMap prB++bG r.txns.length++r.txns.flatMap prB
def prs(l:List (Int×Int)):List Int:=l.flatMap λp=>[p.1,p.2]
def rNums(r:Rc):List Int:=[r.lsn,r.prev,r.next,r.redo,r.xid,r.page,r.slot,r.old,r.new]++r.slots++r.more++r.imgs.map (·.1)++prs r.pages++prs r.txns
def vr(n:Int):Bool:=decide (n<0)||decide (4611686018427387904<n)
def dT:List (Int×Pg)->Int
 | []=>0
 | m::l=>bif decide (pErr m.2=0) then dT l else pErr m.2
def iy(r:Rc):Bs×Int:=bif decide (dT r.imgs=0) then(bif decide (65535<(fu r).length) then([],3) else(fu r,0)) else([],dT r.imgs)
def fk(r:Rc):Bool:=decide (512<r.data.length)||decide (255<r.slots.length)||decide (255<r.more.length)||decide (4<r.imgs.length)||decide (8192<r.pages.length)||decide (1024<r.txns.length)
def rCheck(r:Rc):Bs×Int:=
 bif decide (r.kind<1)||decide (13<r.kind) then([],41)
 else bif decide (r.lsn<1)||(rNums r).any vr then([],4)
 else bif fk r then([],3) else iy r
def lG(r:Rc):Bs×Int:=bif decide ((rCheck r).2=0) then(beN 4 (rCheck r).1.length++beN 4 (crc (rCheck r).1)++(rCheck r).1,0) else([],(rCheck r).2)
abbrev St2:=Bs×Int
def rn(most:Int)(st:St2):Int×St2:=rdNum most st.1 st.2
def rt(most:Int)(st:St2):Bs×St2:=bif decide ((rn most st).2.2=0) then(bif decide (((rn most st).2.1.length:Int)<(rn most st).1) then([],([],10)) else((rn most st).2.1.take (rn most st).1.toNat,((rn most st).2.1.drop (rn most st).1.toNat,0))) else([],(rn most st).2)
def rC:Nat->St2->List Int×St2
 | 0,st=>([],st)
 | n+1,st=>bif decide ((rn 4611686018427387904 st).2.2=0) then((rn 4611686018427387904 st).1::(rC n (rn 4611686018427387904 st).2).1,(rC n (rn 4611686018427387904 st).2).2) else([(rn 4611686018427387904 st).1],(rn 4611686018427387904 st).2)
def rl(most:Int)(st:St2):List Int×St2:=rC (rn most st).1.toNat (rn most st).2
def nH(t:Bs):Bs:=t++aH (512 - t.length)
def vA:Nat->St2->Option (List (Int×Pg)×St2)
 | 0,st=>some ([],st)
 | n+1,st=>bif decide ((dK (nH (rt 512 (rn 4611686018427387904 st).2).1)).2=0)&&decide ((rt 512 (rn 4611686018427387904 st).2).2.2=0) then(vA n (rt 512 (rn 4611686018427387904 st).2).2).map λr=>(((rn 4611686018427387904 st).1,(dK (nH (rt 512 (rn 4611686018427387904 st).2).1)).1)::r.1,r.2) else none
def nN:Nat->St2->Option (List (Int×Int)×St2)
 | 0,st=>some ([],st)
 | n+1,st=>bif decide (st.2=0) then(nN n (rn 4611686018427387904 (rn 4611686018427387904 st).2).2).map λr=>(((rn 4611686018427387904 st).1,(rn 4611686018427387904 (rn 4611686018427387904 st).2).1)::r.1,r.2) else none
def ten(s:Bs):List Int×St2:=
 let a0:=rn 4611686018427387904 (s,0);let a1:=rn 4611686018427387904 a0.2;let a2:=rn 4611686018427387904 a1.2;let a3:=rn 13 a2.2;let a4:=rn 4611686018427387904 a3.2;let a5:=rn 4611686018427387904 a4.2;let a6:=rn 4611686018427387904 a5.2;let a7:=rn 4611686018427387904 a6.2;let a8:=rn 4611686018427387904 a7.2;let a9:=rn 4611686018427387904 a8.2
 ([a0.1,a1.1,a2.1,a3.1,a4.1,a5.1,a6.1,a7.1,a8.1,a9.1],a9.2)
def gI(l:List Int)(i:Nat):Int:=l.getD i 0
def uY(a:List Int)(st:St2):Option Rc:=
 let t:=rt 512 st;let sl:=rl 255 t.2;let mo:=rl 255 sl.2;let ni:=rn 4 mo.2
 (vA ni.1.toNat ni.2).bind λim=>
 (nN (rn 8192 im.2).1.toNat (rn 8192 im.2).2).bind λpg=>
 (nN (rn 1024 pg.2).1.toNat (rn 1024 pg.2).2).bind λtx=>
 bif decide (vy tx.2.1 tx.2.2=0) then some ⟨gI a 0,gI a 1,gI a 2,gI a 3,gI a 4,gI a 5,gI a 6,gI a 7,gI a 8,gI a 9,t.1,sl.1,mo.1,im.1,pg.1,tx.1⟩ else none
def cA(s:Bs):Option Rc:=uY (ten s).1 (ten s).2
def gj(d:Bs):Option Rc×Nat×Int:=
 bif decide (d.length<8) then(none,0,40)
 else bif decide (ofN (d.take 4)=0)||decide (65535<ofN (d.take 4)) then(none,0,41)
 else bif decide (d.length<8+ofN (d.take 4)) then(none,0,40)
 else bif !decide (ofN ((d.drop 4).take 4)=crc ((d.drop 8).take (ofN (d.take 4)))) then(none,0,30)
 else match cA ((d.drop 8).take (ofN (d.take 4))) with
  | none=>(none,0,41)
  | some x=>bif decide ((rCheck x).2=0)&&decide ((rCheck x).1=(d.drop 8).take (ofN (d.take 4))) then(some x,8+ofN (d.take 4),0) else(none,0,41)
def okN(n:Int):Prop:=0<=n/\n<=4611686018427387904
theorem Ac(n:Nat):bG n=qm n:=by unfold bG;rw[show(max (n:Int) 0).toNat=n by omega]
theorem fA{n most:Int}(h0:0<=n)(h1:n<=most)(hm:most<=4611686018427387904)(t:Bs):rn most (bG n++t,0)=(n,(t,0)):=by obtain⟨k,rfl⟩:=Int.eq_ofNat_of_zero_le h0;unfold rn rdNum;rw[decide_eq_true rfl,cond_true,Ac];have:=yp most 9 0 k 0 t (by omega) (by omega) (by omega) (by simp only[Nat.pow_zero,Nat.mul_one,Nat.zero_add];omega);simp only[Nat.pow_zero,Nat.mul_one,Nat.zero_add] at this;exact this
theorem BO{s:Bs}{most:Int}(h1:(s.length:Int)<=most)(hm:most<=4611686018427387904)(t:Bs):rt most (iM s++t,0)=(s,(t,0)):=by have:=fA (n:=s.length) (most:=most) (by omega) h1 hm (s++t);unfold rt iM;rw[List.append_assoc,this];simp only[decide_true,cond_true];rw[decide_eq_false (by rw[List.length_append];omega),cond_false,Int.toNat_natCast,List.take_left,List.drop_left]
theorem te:∀(l:List Int) (t:Bs),(∀n∈l,okN n)->rC l.length (cz l++t,0)=(l,(t,0))
 | [],t,_=>rfl
 | n::l,t,h=>by
  have h0:=h n (by simp);have ih:=te l t (λm hm=>h m (by simp[hm]));have e:cz (n::l)++t=bG n++(cz l++t):=by simp[cz]
  rw[List.length_cons,rC,e,fA h0.1 h0.2 (Int.le_refl _)];simp only[decide_true,cond_true];rw[ih]
theorem BN{l:List Int}{most:Int}(h1:(l.length:Int)<=most)(hm:most<=4611686018427387904)(h:∀n∈l,okN n)(t:Bs):rl most (dV l++t,0)=(l,(t,0)):=by unfold rl dV;rw[List.append_assoc,fA (by omega) h1 hm];simp only[Int.toNat_natCast];exact te l t h
theorem tr{s:Bs}(h:s.length=512):nH (iG s)=s/\(iG s).length<=512:=by
 have key:∀l:Bs,∃n,l=List.replicate n 0++l.dropWhile (· == 0):=by
  intro l;induction l with
  | nil=>exact⟨0,rfl⟩
  | cons x l ih=>
   rw[List.dropWhile_cons];by_cases hx:x=0
   ·subst hx;obtain⟨n,hn⟩:=ih;refine⟨n+1,?_⟩;simp only[beq_self_eq_true,if_true,List.replicate_succ,List.cons_append];rw[<- hn]
   ·refine⟨0,?_⟩;rw[if_neg (by simpa using hx)];rfl
 obtain⟨n,hn⟩:=key s.reverse;have h1:s=iG s++aH n:=by have:=congrArg List.reverse hn;rw[List.reverse_reverse,List.reverse_append,List.reverse_replicate] at this;exact this
 have hl:=congrArg List.length h1;rw[List.length_append,cu] at hl;refine⟨?_,by omega⟩;unfold nH;rw[show 512 - (iG s).length=n by omega];exact h1.symm
theorem xq{l:List (Int×Pg)}(h:dT l=0):∀m∈l,pErr m.2=0:=by
 induction l with
 | nil=>intro m hm;cases hm
 | cons x l ih=>
  unfold dT at h;cases hx:decide (pErr x.2=0) with
  | true=>
   rw[hx,cond_true] at h;intro m hm;rcases List.mem_cons.1 hm with rfl|hm
   ·simpa using hx
   ·exact ih h m hm
  | false=>rw[hx,cond_false] at h;rw[decide_eq_false_iff_not] at hx;exact absurd h hx
theorem td:∀(l:List (Int×Pg)) (t:Bs),(∀m∈l,okN m.1/\pErr m.2=0/\m.2.lsn<=9223372036854775807)->vA l.length (l.flatMap sI++t,0)=some (l,(t,0))
 | [],t,_=>rfl
 | m::l,t,h=>by
  obtain⟨h0,h1,h2⟩:=h m (by simp);have ih:=td l t (λm hm=>h m (by simp[hm]));have e:(m::l).flatMap sI++t=bG m.1++(iM (iG (pEnc m.2).1)++(l.flatMap sI++t)):=by simp[sI]
  obtain⟨e1,e2⟩:=tr (iq h1);rw[List.length_cons,vA,e,fA h0.1 h0.2 (Int.le_refl _)];simp only;rw[BO (by omega) (by omega)];simp only;rw[e1,Cp h1 h2,ih]
  rfl
theorem nO:∀(l:List (Int×Int)) (t:Bs),(∀m∈l,okN m.1/\okN m.2)->nN l.length (l.flatMap prB++t,0)=some (l,(t,0))
 | [],t,_=>rfl
 | m::l,t,h=>by
  obtain⟨h0,h1⟩:=h m (by simp);have ih:=nO l t (λm hm=>h m (by simp[hm]));have e:(m::l).flatMap prB++t=bG m.1++(bG m.2++(l.flatMap prB++t)):=by simp[prB]
  rw[List.length_cons,nN,e,fA h0.1 h0.2 (Int.le_refl _)];simp only;rw[fA h1.1 h1.2 (Int.le_refl _),ih]
  rfl
structure Good (r : Rc) : Prop where
 kind : 1 ≤ r.kind ∧ r.kind ≤ 13
 nums : ∀ n ∈ rNums r, okN n
 data : r.data.length ≤ 512
 slots : r.slots.length ≤ 255
 more : r.more.length ≤ 255
 imgs : r.imgs.length ≤ 4
 pages : r.pages.length ≤ 8192
 txns : r.txns.length ≤ 1024
 img : ∀ m ∈ r.imgs, pErr m.2 = 0
 lsns : ∀ m ∈ r.imgs, m.2.lsn ≤ 9223372036854775807
theorem Ce{n:Int}(h:vr n=false):okN n:=by unfold vr at h;rw[Bool.or_eq_false_iff,decide_eq_false_iff_not,decide_eq_false_iff_not] at h;unfold okN;omega
theorem iw{r:Rc}(h:(rCheck r).2=0)(hl:∀m∈r.imgs,m.2.lsn<=9223372036854775807):Good r/\1<=r.lsn/\(rCheck r).1=fu r/\(fu r).length<=65535:=by
 unfold rCheck at h ⊢;cases h1:decide (r.kind<1)||decide (13<r.kind) with
 | true=>rw[h1,cond_true] at h;cases h
 | false=>
 rw[h1,cond_false] at h;cases h2:decide (r.lsn<1)||(rNums r).any vr with
 | true=>rw[h2,cond_true] at h;cases h
 | false=>
 rw[h2,cond_false] at h;cases h3:fk r with
 | true=>rw[h3,cond_true] at h;cases h
 | false=>
 rw[h3,cond_false] at h;simp only[cond_false];unfold iy at h ⊢;cases h4:decide (dT r.imgs=0) with
 | false=>rw[h4,cond_false] at h;rw[decide_eq_false_iff_not] at h4;exact absurd h h4
 | true=>
 rw[h4,cond_true] at h;cases h5:decide (65535<(fu r).length) with
 | true=>rw[h5,cond_true] at h;cases h
 | false=>
 simp only[cond_true,cond_false];rw[Bool.or_eq_false_iff,decide_eq_false_iff_not,decide_eq_false_iff_not] at h1;rw[Bool.or_eq_false_iff,decide_eq_false_iff_not] at h2;simp only[fk,Bool.or_eq_false_iff,decide_eq_false_iff_not] at h3;rw[decide_eq_true_eq] at h4;rw[decide_eq_false_iff_not] at h5;refine⟨⟨by omega,λn hn=>Ce ?_,by omega,by omega,by omega,by omega,by omega,by omega,xq h4,hl⟩,by omega,trivial,by omega⟩;have:=List.any_eq_false.1 h2.2 n hn;simpa using this
theorem fl{l:List (Int×Int)}{p:Int×Int}(h:p∈l):p.1∈prs l/\p.2∈prs l:=by unfold prs;exact⟨List.mem_flatMap.2 ⟨p,h,by simp⟩,List.mem_flatMap.2 ⟨p,h,by simp⟩⟩
theorem Dy{r:Rc}(h:Good r)(t:Bs):ten (cz (iU r)++t)=(iU r,(t,0)):=by
 have hn:∀n,n∈[r.lsn,r.prev,r.next,r.redo,r.xid,r.page,r.slot,r.old,r.new]->okN n:=λn hm=>h.nums n (by unfold rNums;simp only[List.mem_append];exact .inl (.inl (.inl (.inl (.inl hm)))));have e:cz (iU r)++t=bG r.lsn++(bG r.prev++(bG r.next++(bG r.kind++(bG r.xid++(bG r.page++(bG r.slot++(bG r.old++(bG r.new++(bG r.redo++t))))))))):=by simp[cz,iU]
 have hk:=h.kind;have q:=λn hm t=>fA (hn n hm).1 (hn n hm).2 (Int.le_refl _) t;have q0:=q r.lsn (by simp);have q1:=q r.prev (by simp);have q2:=q r.next (by simp)
 have q4:=q r.xid (by simp);have q5:=q r.page (by simp);have q6:=q r.slot (by simp);have q7:=q r.old (by simp);have q8:=q r.new (by simp);have q9:=q r.redo (by simp);have q3:∀t,rn 13 (bG r.kind++t,0)=(r.kind,(t,0)):=λt=>fA (by omega) hk.2 (by omega) t;rw[e];simp only[ten,q0,q1,q2,q3,q4,q5,q6,q7,q8,q9]
 rfl
theorem xU{r:Rc}(h:Good r):cA (fu r)=some r:=by
 have e:fu r=cz (iU r)++(iM r.data++(dV r.slots++(dV r.more++(bG (r.imgs.length:Int)++(r.imgs.flatMap sI++(bG (r.pages.length:Int)++(r.pages.flatMap prB++(bG (r.txns.length:Int)++(r.txns.flatMap prB++[]))))))))):=by simp[fu]
 have hd:=h.data;have hs:=h.slots;have hm:=h.more;have hi:=h.imgs;have hp:=h.pages;have ht:=h.txns;unfold cA;rw[e,Dy h];simp only[uY];rw[BO (by omega) (by omega)];simp only;rw[BN (by omega) (by omega) (λn hn=>h.nums n (by unfold rNums;simp only[List.mem_append];exact .inl (.inl (.inl (.inl (.inr hn))))))];simp only;rw[BN (by omega) (by omega) (λn hn=>h.nums n (by unfold rNums;simp only[List.mem_append];exact .inl (.inl (.inl (.inr hn)))))];simp only;rw[fA (by omega) (by omega) (by omega)];simp only[Int.toNat_natCast];rw[td _ _ (λm hm=>⟨h.nums _ (by unfold rNums;simp only[List.mem_append];exact .inl (.inl (.inr (List.mem_map.2 ⟨m,hm,rfl⟩)))),h.img m hm,h.lsns m hm⟩)];simp only[Option.bind_some];rw[fA (by omega) (by omega) (by omega)];simp only[Int.toNat_natCast];rw[nO _ _ (λm hm=>⟨h.nums _ (by unfold rNums;simp only[List.mem_append];exact .inl (.inr (fl hm).1)),h.nums _ (by unfold rNums;simp only[List.mem_append];exact .inl (.inr (fl hm).2))⟩)];simp only[Option.bind_some];rw[fA (by omega) (by omega) (by omega)];simp only[Int.toNat_natCast];rw[nO _ _ (λm hm=>⟨h.nums _ (by unfold rNums;simp only[List.mem_append];exact .inr (fl hm).1),h.nums _ (by unfold rNums;simp only[List.mem_append];exact .inr (fl hm).2)⟩)]
 rfl
theorem E47:ElemT prog 25 3 1 8:=bJ Tryz.underlying25 (by kernel_rfl)
theorem aN{w:World}{ad:Addr}{l:List Value}{n:Nat}(hl:l.length=n)(h:∀j,j<n->w.cell? (ad.add j)=l[j]?):aM w ad n=some (.agg l.toArray):=by
 have key:∀(m j:Nat),j+m<=n->bE w ad j m=some ((l.drop j).take m):=by
  intro m;induction m with
  | zero=>intro j hj;simp[bE]
  | succ m ih=>
   intro j hj;have hlt:j<l.length:=by omega
   have hcell:=h j (by omega);rw[List.getElem?_eq_getElem hlt] at hcell;simp only[bE,hcell,ih (j+1) (by omega),Option.map_some];rw[List.drop_eq_getElem_cons hlt,List.take_succ_cons]
 unfold aM;rw[key n 0 (by omega)];simp only[List.drop_zero,Option.map_some];rw[List.take_of_length_le (by omega)]
theorem dE{α:Type}{f:α->List Value}{n:Nat}(hf:∀x,(f x).length=n){L:List α}{i:Nat}{x:α}(h:L[i]?=some x){j:Nat}(hj:j<n):(L.flatMap f)[i*n+j]?=(f x)[j]? := by
 induction L generalizing i with
 | nil=>simp at h
 | cons y L ih=>
  rw[List.flatMap_cons];cases i with
  | zero=>simp at h;subst h;rw[Nat.zero_mul,Nat.zero_add,List.getElem?_append_left (by rw[hf];exact hj)]
  | succ i=>rw[List.getElem?_append_right (by rw[hf,Nat.succ_mul];omega),hf,Nat.succ_mul];rw[show i*n+n+j - n=i*n+j by omega];exact ih (by simpa using h)
theorem flat_len{α:Type}{f:α->List Value}{n:Nat}(hf:∀x,(f x).length=n)(L:List α):(L.flatMap f).length=L.length*n:=by
 induction L with
 | nil=>simp
 | cons y L ih=>rw[List.flatMap_cons,List.length_append,hf,ih,List.length_cons,Nat.succ_mul];omega
theorem gS{α:Type}{f:α->List Value}{n:Nat}(hf:∀x,(f x).length=n)(hn:0<n){w:World}{v:Value}{L:List α}(h:CellsAt w v L.length n (L.flatMap f)){i:Nat}{x:α}(hx:L[i]?=some x):
  ∃ad,ixV n v (iv i)=some (.pointer (some ad))/\aM w ad n=some (.agg (f x).toArray)/\blockOf v=some ad.block:=by
 obtain⟨ad,h1,h2,h3⟩:=h.at hn (List.getElem?_eq_some_iff.1 hx).1 .i64;exact⟨ad,h1,aN (hf x) (λj hj=>by rw[h3 j hj,dE hf hx hj]),h2⟩
theorem da{w:World}{e:TypeId}{sz base n:Nat}{l:List Value}(hl:l.length=n*sz)(hb:base<=w.heap.size)(hn:n<=maxLen):(w.alloc (.cells l.toArray e)).ownsRow base e sz (.slice (some ⟨w.heap.size,0,none⟩) n n) n l:=⟨hl,.inr ⟨_,n,l.toArray,rfl,hb,aA _ _,Nat.le_refl _,hn,by simp[hl],by simp[<- hl]⟩⟩
theorem BK{w:World}{base base':Nat}{e:TypeId}{sz:Nat}{v:Value}{n:Nat}{xs:List Value}(h:w.ownsRow base e sz v n xs)(hb:∀k,v.ownBlock=some k->base'<=k):w.ownsRow base' e sz v n xs:=by
 refine⟨h.1,?_⟩;rcases h.2 with h2|⟨g,cap,cur,rfl,hb',r⟩
 ·exact .inl h2
 ·exact .inr ⟨g,cap,cur,rfl,hb g rfl,r⟩
def pc2(p:Int×Int):List Value:=[iv p.1,iv p.2]
theorem dL(p:Int×Int):(pc2 p).length=2:=rfl
theorem yc(l:List (Int×Int)):l.flatMap pc2=(prs l).map iv:=by
 induction l with
 | nil=>rfl
 | cons p l ih=>rw[List.flatMap_cons,ih];rfl
def imC(x:Int×Pg×Value):List Value:=iv x.1::(pcs x.2.1 x.2.2).toList
theorem qO(x:Int×Pg×Value):(imC x).length=7:=rfl
def rcs(r:Rc)(vs vm vi vp vt:Value):Array Value:=#[iv r.lsn,iv r.prev,iv r.next,.int .u8 r.kind,iv r.xid,iv r.page,iv r.slot,iv r.old,iv r.new,iv r.redo,stv r.data,vs,vm,vi,vp,vt]
structure ImAs (w : World) (v : Value) (L : List (Int × Pg)) : Prop where
 ex : ∃ X : List (Int × Pg × Value), X.map (fun x => (x.1, x.2.1)) = L ∧ CellsAt w v X.length 7 (X.flatMap imC) ∧ ∀ x ∈ X, x.2.2.oneCell' = true ∧ PgAs w (pcs x.2.1 x.2.2) x.2.1
theorem ImAs.keep{w w':World}{v:Value}{L:List (Int×Pg)}(h:ImAs w v L)(hf:Fm (λ_=>False) w w'):ImAs w' v L:=by obtain⟨X,h1,h2,h3⟩:=h.ex;exact⟨X,h1,h2.keep hf iT,λx hx=>⟨(h3 x hx).1,(h3 x hx).2.keep hf⟩⟩
theorem ImAs.lenV{w:World}{v:Value}{L:List (Int×Pg)}(h:ImAs w v L):lenV v=some (iv L.length):=by obtain⟨X,h1,h2,h3⟩:=h.ex;rw[<- h1,List.length_map];exact h2.lenV
theorem ImAs.ld{w:World}{v:Value}{L:List (Int×Pg)}(h:ImAs w v L){i:Nat}{m:Int×Pg}(hi:L[i]?=some m):∃ad u,ixV 7 v (iv i)=some (.pointer (some ad))/\aM w ad 7=some (.agg (imC (m.1,m.2,u)).toArray)/\u.oneCell'=true/\PgAs w (pcs m.2 u) m.2:=by obtain⟨X,h1,h2,h3⟩:=h.ex;rw[<- h1,List.getElem?_map,Option.map_eq_some_iff] at hi;obtain⟨x,hx,rfl⟩:=hi;obtain⟨ad,q1,q2,_⟩:=gS qO (by omega) h2 hx;obtain⟨q3,q4⟩:=h3 x (List.mem_of_getElem? hx);exact⟨ad,x.2.2,q1,q2,q3,q4⟩
structure RcAs (w : World) (cs : Array Value) (r : Rc) : Prop where
 ex : ∃ vs vm vi vp vt, cs = rcs r vs vm vi vp vt ∧ (vs.oneCell' = true ∧ vm.oneCell' = true ∧ vi.oneCell' = true ∧ vp.oneCell' = true ∧ vt.oneCell' = true) ∧ CellsAt w vs r.slots.length 1 (r.slots.map iv) ∧ CellsAt w vm r.more.length 1 (r.more.map iv) ∧ ImAs w vi r.imgs ∧
  CellsAt w vp r.pages.length 2 (r.pages.flatMap pc2) ∧ CellsAt w vt r.txns.length 2 (r.txns.flatMap pc2)
 ins : ∀ n ∈ rNums r, In n
 kin : 0 ≤ r.kind ∧ r.kind ≤ 255
 data : r.data.length ≤ 140737488355328
 bulk : r.slots.length + r.more.length + r.imgs.length + r.pages.length + r.txns.length ≤ 2000000
 lsns : ∀ m ∈ r.imgs, m.2.lsn ≤ 9223372036854775807
theorem RcAs.keep{w w':World}{cs:Array Value}{r:Rc}(h:RcAs w cs r)(hf:Fm (λ_=>False) w w'):RcAs w' cs r:=by obtain⟨vs,vm,vi,vp,vt,h1,h2,h3,h4,h5,h6,h7⟩:=h.ex;exact⟨⟨vs,vm,vi,vp,vt,h1,h2,h3.keep hf iT,h4.keep hf iT,h5.keep hf,h6.keep hf iT,h7.keep hf iT⟩,h.ins,h.kin,h.data,h.bulk,h.lsns⟩
theorem RcAs.size{w:World}{cs:Array Value}{r:Rc}(h:RcAs w cs r):cs.size=16:=by obtain⟨vs,vm,vi,vp,vt,rfl,_⟩:=h.ex;rfl
theorem RcAs.one{w:World}{cs:Array Value}{r:Rc}(h:RcAs w cs r):∀u∈cs.toList,u.oneCell'=true:=by obtain⟨vs,vm,vi,vp,vt,rfl,⟨h1,h2,h3,h4,h5⟩,_⟩:=h.ex;intro u hu;simp[rcs] at hu;rcases hu with rfl|rfl|rfl|rfl|rfl|rfl|rfl|rfl|rfl|rfl|rfl|rfl|rfl|rfl|rfl|rfl<;>first|rfl|assumption
structure RB (w : World) (g : Nat) (r : Rc) (vs vm vi vp vt : Value) : Prop where
 h : w.heap[g]? = some (.cells (rcs r vs vm vi vp vt) 168)
section
variable{S:Nat->Prop}{w w':World}{g:Nat}{r:Rc}{vs vm vi vp vt:Value}
theorem RB.keep(h:RB w g r vs vm vi vp vt)(hf:Fm S w w')(hs:¬S g):RB w' g r vs vm vi vp vt:=⟨hf.heap h.h hs⟩
theorem RB.c0(h:RB w g r vs vm vi vp vt):w.cell? ⟨g,0,none⟩=some (iv r.lsn):=by rw[ab h.h];rfl
theorem RB.c1(h:RB w g r vs vm vi vp vt):w.cell? ⟨g,1,none⟩=some (iv r.prev):=by rw[ab h.h];rfl
theorem RB.c2(h:RB w g r vs vm vi vp vt):w.cell? ⟨g,2,none⟩=some (iv r.next):=by rw[ab h.h];rfl
theorem RB.c3(h:RB w g r vs vm vi vp vt):w.cell? ⟨g,3,none⟩=some (.int .u8 r.kind):=by rw[ab h.h];rfl
theorem RB.c4(h:RB w g r vs vm vi vp vt):w.cell? ⟨g,4,none⟩=some (iv r.xid):=by rw[ab h.h];rfl
theorem RB.c5(h:RB w g r vs vm vi vp vt):w.cell? ⟨g,5,none⟩=some (iv r.page):=by rw[ab h.h];rfl
theorem RB.c6(h:RB w g r vs vm vi vp vt):w.cell? ⟨g,6,none⟩=some (iv r.slot):=by rw[ab h.h];rfl
theorem RB.c7(h:RB w g r vs vm vi vp vt):w.cell? ⟨g,7,none⟩=some (iv r.old):=by rw[ab h.h];rfl
theorem RB.c8(h:RB w g r vs vm vi vp vt):w.cell? ⟨g,8,none⟩=some (iv r.new):=by rw[ab h.h];rfl
theorem RB.c9(h:RB w g r vs vm vi vp vt):w.cell? ⟨g,9,none⟩=some (iv r.redo):=by rw[ab h.h];rfl
theorem RB.c10(h:RB w g r vs vm vi vp vt):w.cell? ⟨g,10,none⟩=some (stv r.data):=by rw[ab h.h];rfl
theorem RB.A4(h:RB w g r vs vm vi vp vt):w.cell? ⟨g,11,none⟩=some vs:=by rw[ab h.h];rfl
theorem RB.c12(h:RB w g r vs vm vi vp vt):w.cell? ⟨g,12,none⟩=some vm:=by rw[ab h.h];rfl
theorem RB.c13(h:RB w g r vs vm vi vp vt):w.cell? ⟨g,13,none⟩=some vi:=by rw[ab h.h];rfl
theorem RB.c14(h:RB w g r vs vm vi vp vt):w.cell? ⟨g,14,none⟩=some vp:=by rw[ab h.h];rfl
theorem RB.c15(h:RB w g r vs vm vi vp vt):w.cell? ⟨g,15,none⟩=some vt:=by rw[ab h.h];rfl
theorem RB.all(h:RB w g r vs vm vi vp vt):aM w ⟨g,0,none⟩ 16=some (.agg (rcs r vs vm vi vp vt)):=aa h.h rfl
theorem RB.lt(h:RB w g r vs vm vi vp vt):g<w.heap.size:=aj h.h
end
structure WS (w0 w : World) (r : Nat) (B : Bs) : Prop where
 ex : ∃ v, w.heap[r]? = some (.cells #[v] 391) ∧ w.ownsRow w0.heap.size 5 1 v B.length (bc B)
 fm : Fm (fun _ => False) w0 w
 ge : w0.heap.size ≤ r
theorem WS.wr{w0 w:World}{r:Nat}{B:Bs}(h:WS w0 w r B):WrAt w r B/\∀y,wrM w r y->w0.heap.size<=y/\y<w.heap.size:=by
 obtain⟨v,hv,ho⟩:=h.ex;refine⟨⟨v,hv,aU ho (Nat.zero_le _)⟩,?_⟩;rintro y (rfl|⟨v',hv',hy⟩)
 ·exact⟨h.ge,aj hv⟩
 ·rw[hv] at hv';cases hv';exact aO ho y hy
theorem WS.of{w0 w w':World}{r:Nat}{B B':Bs}{S:Nat->Prop}(h:WS w0 w r B)(h':WrAt w' r B')(hf:Fm S w w')(hS:∀y,S y->w0.heap.size<=y)(hM:∀y,wrM w' r y->wrM w r y\/w.heap.size<=y):WS w0 w' r B':=by
 obtain⟨v,hv,ho⟩:=h'.ex;have hz:=h.fm.size;refine⟨⟨v,hv,BK ho (λk hk=>?_)⟩,Fm.own h.fm hf hS,h.ge⟩;rcases hM k (.inr ⟨v,hv,hk⟩) with e|e
 ·exact(h.wr.2 k e).1
 ·omega
theorem WS.keep{w0 w w':World}{r:Nat}{B:Bs}(h:WS w0 w r B)(hf:Fm (λ_=>False) w w'):WS w0 w' r B:=by obtain⟨v,hv,ho⟩:=h.ex;exact⟨⟨v,hf.heap hv id,ah ho hf (λ_ _ _ _ e=>e)⟩,Fmf h.fm hf,h.ge⟩
theorem WS.new{w0 w:World}(hf:Fm (λ_=>False) w0 w){k:KV}(hk:∀w' r,WS w0 w' r []->Fm (λ_=>False) w w'->k (pv r) w'):Cl prog 247 [] w k:=by refine(wB w).mono ?_;rintro _ w' ⟨rfl,h1,h2,h3⟩;have hz:=hf.size;obtain⟨v,hv,ho⟩:=h1.ex;refine hk w' _ ⟨⟨v,hv,BK ho (λk hk=>?_)⟩,Fmf hf h3,hz⟩ h3;have:=h2 k (.inr ⟨v,hv,hk⟩);omega
theorem WS.num{w0 w:World}{r:Nat}{B:Bs}(h:WS w0 w r B){v:Value}{ns:List Int}(hns:CellsAt w v ns.length 1 (ns.map iv))(hb:ns≠[]->∀g,blockOf v=some g->g<w0.heap.size)(hin:∀n∈ns,n<=9223372036854775807)(hl:B.length+9*ns.length<=1000000000000){k:KV}
  (hk:∀u w',WS w0 w' r (B++cz ns)->k u w'):Cl prog 248 [pv r,v] w k:=by
 obtain⟨hw,hm⟩:=h.wr;refine(qh hw hns (λhne g hg e=>by have:=hb hne g hg;have:=(hm g e).1;omega) hin hl).mono ?_;rintro u w' ⟨h1,h2,h3⟩;exact hk u w' (h.of h1 h2 (λy hy=>(hm y hy).1) h3)
theorem WS.lit{w0 w:World}{r n:Nat}{B:Bs}(h:WS w0 w r B){ns:List Int}{items:Array (Nat×Value)}(hb:(Instr.buildSlice 25 n items).run prog w=.ok (.slice (some ⟨w.heap.size,0,none⟩) n n) (w.alloc (.cells (ns.map iv).toArray 3)))(hn:ns.length=n)(hin:∀n∈ns,n<=9223372036854775807)(hl:B.length+9*n<=1000000000000){k:KV}
  (hk:∀u w',WS w0 w' r (B++cz ns)->k u w'):RunS prog (Instr.buildSlice 25 n items) w λt w1=>Cl prog 248 [pv r,t] w1 k:=by
 refine ag hb ?_;subst hn;have hf:=Fm.alloc (λ_=>False) w (.cells (ns.map iv).toArray 3);have ho:=da (w:=w) (e:=3) (sz:=1) (base:=w.heap.size) (n:=ns.length) (l:=ns.map iv) (by simp) (Nat.le_refl _) (by unfold maxLen;omega);have h1:=h.keep hf;obtain⟨hw,hm⟩:=h.wr;generalize w.alloc (.cells (ns.map iv).toArray 3)=w1 at hf ho h1;obtain⟨hw1,hm1⟩:=h1.wr;have hsame:∀y,wrM w1 r y->y<w.heap.size:=λy hy=>by obtain⟨_,e⟩:=hw.keep hf iT;exact hw.lt y ((e y).1 hy)
 refine(qh hw1 (CellsAt.aT ho) (λhne g hg e=>?_) hin hl).mono ?_
 ·have h0:=hsame g e;have h1:g=w.heap.size:=(Option.some.inj hg).symm;omega
 ·rintro u w' ⟨g1,g2,g3⟩;exact hk u w' (h1.of g1 g2 (λy hy=>(hm1 y hy).1) g3)
theorem dC(a:Int)(w:World):(Instr.buildSlice 25 1 #[(0,iv a)]).run prog w=.ok (.slice (some ⟨w.heap.size,0,none⟩) 1 1) (w.alloc (.cells ([a].map iv).toArray 3)):=by kernel_rfl
theorem ou(a b:Int)(w:World):(Instr.buildSlice 25 2 #[(0,iv a),(1,iv b)]).run prog w=.ok (.slice (some ⟨w.heap.size,0,none⟩) 2 2) (w.alloc (.cells ([a,b].map iv).toArray 3)):=by kernel_rfl
theorem ED(a b c d e f g h i:Int)(w:World):(Instr.buildSlice 25 9 #[(0,iv a),(1,iv b),(2,iv c),(3,iv d),(4,iv e),(5,iv f),(6,iv g),(7,iv h),(8,iv i)]).run prog w=.ok (.slice (some ⟨w.heap.size,0,none⟩) 9 9) (w.alloc (.cells ([a,b,c,d,e,f,g,h,i].map iv).toArray 3)):=by kernel_rfl
theorem Cj(a b c d e f g h i j:Int)(w:World):(Instr.buildSlice 25 10 #[(0,iv a),(1,iv b),(2,iv c),(3,iv d),(4,iv e),(5,iv f),(6,iv g),(7,iv h),(8,iv i),(9,iv j)]).run prog w=.ok (.slice (some ⟨w.heap.size,0,none⟩) 10 10) (w.alloc (.cells ([a,b,c,d,e,f,g,h,i,j].map iv).toArray 3)):=by kernel_rfl
theorem jm(a:Int):cz [a]=bG a:=by simp[cz]
theorem aK{n:Int}(h:n<=9223372036854775807):(bG n).length<=9:=by unfold bG;exact(xa (by omega)).2
theorem il:∀{l:List Int},(∀n∈l,n<=9223372036854775807)->(cz l).length<=9*l.length
 | [],_=>by simp[cz]
 | n::l,h=>by have:=il (l:=l) (λm hm=>h m (by simp[hm]));have:=aK (h n (by simp));unfold cz at *;rw[List.flatMap_cons,List.length_append,List.length_cons];omega
theorem WS.text{w0 w:World}{r:Nat}{B:Bs}(h:WS w0 w r B){s:Bs}(hs:s.length<=1000000)(hl:B.length+9+s.length<=1000000000){k:KV}(hk:∀u w',WS w0 w' r (B++iM s)->k u w'):Cl prog 380 [pv r,stv s] w k:=by
 refine c380 ?_;simp only[RS,aq];refine h.lit (dC _ _) rfl (by intro n hn;simp at hn;omega) (by omega) ?_;intro u w1 h1;rw[jm] at h1;obtain⟨v,hv,ho⟩:=h1.ex;have c0:w1.cell? ⟨r,0,none⟩=some v:=by rw[ab hv];rfl
 have hel:=aK (n:=s.length) (by omega);have hz:=h1.fm.size;simp only[RS,c0];obtain⟨v',w2,hr2,ho2,hf2,_⟩:=gu B38 ho s 57 (by rw[List.length_append];omega) hz;refine ag hr2 ?_;have hne:v.ownBlock≠some r:=λe=>by
  rcases ho.2 with⟨rfl,_⟩|⟨g,cap,cur,rfl,_,hg,_⟩
  ·cases e
  ·have:g=r:=by simpa[Value.ownBlock] using e
   subst this;rw[hv] at hg;cases hg
 have hlt:=aO ho;refine au (hf2.heap hv hne) (by show 0<1;decide) (aB ho2) ?_;intro w3 hw3 hs3 hf3
 replace hw3:w3.heap[r]?=some (.cells #[v'] 391):=hw3
 have ho3:w3.ownsRow w0.heap.size 5 1 v' _ _:=ah ho2 hf3 (λg _ _ hg e=>by
  rcases ho2.2 with⟨rfl,_⟩|⟨g',cap,cur,rfl,_,hgg,_⟩
  ·cases hg
  ·have e1:g'=g:=by simpa[Value.ownBlock] using hg
   rw[e1,e] at hgg;rw[hf2.heap hv hne] at hgg;cases hgg)
 refine hk _ _ ⟨⟨v',hw3,?_⟩,Fm.own (Fm.own h1.fm hf2 (λy hy=>(hlt y hy).1)) hf3 (by rintro y rfl;exact h1.ge),h1.ge⟩;have e1:(B++iM s)=(B++bG s.length)++s:=by simp[iM]
 rw[e1];have e2:((B++bG s.length)++s).length=(B++bG s.length).length+s.length:=List.length_append;rw[e2];exact ho3
theorem EK(l:List Int):∀u∈l.map iv,u.oneCell'=true:=by
 intro u hu;obtain⟨n,_,rfl⟩:=List.mem_map.1 hu
 rfl
theorem rD{w:World}{b0:Nat}{lv v:Value}{L ns:List Int}(ho:w.ownsRow b0 3 1 lv L.length (L.map iv))(hc:CellsAt w v ns.length 1 (ns.map iv))(hl:L.length+ns.length<=100000000)(hb:b0<=w.heap.size):
  ∃v' w',(Builtin.append_ #[25,25] 25 #[lv,v]).run prog w=.ok v' w'/\w'.ownsRow b0 3 1 v' (L++ns).length ((L++ns).map iv)/\Fm (λy=>b0<=y) w w':=by
 obtain⟨v',w',hr,ho',hf⟩:=cD E47 (by omega) ho hc (EK ns) 25 (by unfold maxLen;omega) (by omega) hb;refine⟨v',w',hr,?_,hf.mono (λy _ e=>(aO ho y e).1)⟩;rw[List.length_append,List.map_append];exact ho'
theorem nM{w:World}{b0 n:Nat}{lv:Value}{L ns:List Int}{items:Array (Nat×Value)}(ho:w.ownsRow b0 3 1 lv L.length (L.map iv))(hbs:(Instr.buildSlice 25 n items).run prog w=.ok (.slice (some ⟨w.heap.size,0,none⟩) n n) (w.alloc (.cells (ns.map iv).toArray 3)))(hn:ns.length=n)(hl:L.length+n<=100000000)(hb:b0<=w.heap.size){k:KV}
  (hk:∀v' w',w'.ownsRow b0 3 1 v' (L++ns).length ((L++ns).map iv)->Fm (λy=>b0<=y) w w'->k v' w'):RunS prog (Instr.buildSlice 25 n items) w λt w1=>RunS prog (Builtin.append_ #[25,25] 25 #[lv,t]) w1 k:=by
 refine ag hbs ?_;subst hn;have hf:=Fm.alloc (λ_=>False) w (.cells (ns.map iv).toArray 3);have hnew:=da (w:=w) (e:=3) (sz:=1) (base:=w.heap.size) (n:=ns.length) (l:=ns.map iv) (by simp) (Nat.le_refl _) (by unfold maxLen;omega);have ho1:=ah ho hf (λ_ _ _ _ e=>e);have hz:=hf.size;generalize w.alloc (.cells (ns.map iv).toArray 3)=w1 at hf hnew ho1 hz;obtain⟨v',w',hr,ho',hf'⟩:=rD ho1 (CellsAt.aT hnew) hl (by omega);exact ag hr (hk v' w' ho' ((hf.mono (λ_ _ e=>e.elim)).trans hf' (λ_ _ e=>e) (λ_ _ e=>e)))
theorem pw{w:World}{cs:Array Value}{r:Rc}(h:RcAs w cs r):Cl prog 324 [.agg cs] w λv w'=>w'.ownsRow w.heap.size 3 1 v (rNums r).length ((rNums r).map iv)/\Fm (λ_=>False) w w':=by
 obtain⟨vs,vm,vi,vp,vt,hcs,_,hs,hm,hi,hp,ht⟩:=h.ex;have hbulk:=h.bulk;refine c324 ?_;refine ae ?_;intro x1 w1 hx1 hs1 hw1 hf1;have hR1:RB w1 x1 r vs vm vi vp vt:=⟨by rw[<- hcs];exact hw1⟩;have hz1:=hf1.size;simp only[RS,hR1.c0,hR1.c1,hR1.c2,hR1.c4,hR1.c5,hR1.c6,hR1.c7,hR1.c8,hR1.c9];refine ag (ED _ _ _ _ _ _ _ _ _ _) ?_;have hf2:=Fm.alloc (λ_=>False) w1 (.cells ([r.lsn,r.prev,r.next,r.redo,r.xid,r.page,r.slot,r.old,r.new].map iv).toArray 3);have ho2:=da (w:=w1) (e:=3) (sz:=1) (base:=w1.heap.size) (n:=9) (l:=[r.lsn,r.prev,r.next,r.redo,r.xid,r.page,r.slot,r.old,r.new].map iv) (by simp) (Nat.le_refl _) (by simp[maxLen]);have hL:rNums r=[r.lsn,r.prev,r.next,r.redo,r.xid,r.page,r.slot,r.old,r.new]++r.slots++r.more++r.imgs.map (·.1)++prs r.pages++prs r.txns:=rfl;have h9:([r.lsn,r.prev,r.next,r.redo,r.xid,r.page,r.slot,r.old,r.new]:List Int).length=9:=rfl;rw[hL]
 replace ho2:(w1.alloc (.cells ([r.lsn,r.prev,r.next,r.redo,r.xid,r.page,r.slot,r.old,r.new].map iv).toArray 3)).ownsRow w1.heap.size 3 1 (.slice (some ⟨w1.heap.size,0,none⟩) 9 9) ([r.lsn,r.prev,r.next,r.redo,r.xid,r.page,r.slot,r.old,r.new]:List Int).length ([r.lsn,r.prev,r.next,r.redo,r.xid,r.page,r.slot,r.old,r.new].map iv):=ho2
 generalize w1.alloc (.cells ([r.lsn,r.prev,r.next,r.redo,r.xid,r.page,r.slot,r.old,r.new].map iv).toArray 3)=w2 at hf2 ho2;generalize ([r.lsn,r.prev,r.next,r.redo,r.xid,r.page,r.slot,r.old,r.new]:List Int)=L9 at ho2 h9;have hf3:=Fm.drew (λ_=>False) w2;have hR2:=hR1.keep hf2 id;have hR3:=hR2.keep hf3 id;refine⟨λw'=>w'.cell? ⟨x1,12,none⟩=some vm,hR3.c12,?_⟩;simp only[RS,hR2.A4,hR3.A4,true_and];refine⟨vm,λw9 h9=>?_,?_⟩
 ·simp only[RS,h9];trivial
 have ho3:=ah ho2 hf3 (λ_ _ _ _ e=>e);have hF3:=Fmf hf2 hf3;generalize w2.drew=w3 at hf3 hR3 ho3 hF3;have hz3:=hF3.size;obtain⟨v4,w4,hr4,ho4,hf4⟩:=rD ho3 (hs.keep (Fmf hf1 hF3) iT) (by omega) hz3;have hx1lt:=hR1.lt;have hF4:Fm (λ_=>False) w1 w4:=Fm.own hF3 hf4 (λy e=>e);have hR4:=hR1.keep hF4 id;have hz4:=hF4.size;refine ag hr4 ⟨hR4.c12,?_⟩;obtain⟨v5,w5,hr5,ho5,hf5⟩:=rD ho4 (hm.keep (Fmf hf1 hF4) iT) (by rw[List.length_append];omega) hz4;have hF5:Fm (λ_=>False) w1 w5:=Fm.own hF4 hf5 (λy e=>e);have hR5:=hR1.keep hF5 id;have hz5:=hF5.size;refine ag hr5 ?_;have hi5:=hi.keep (Fmf hf1 hF5);have hl5:(L9++r.slots++r.more).length<=2000009:=by simp only[List.length_append];omega
 generalize L9++r.slots++r.more=L5 at ho5 hl5;simp only[RS,hR5.c13,hi5.lenV];refine⟨λvs w'=>∃(i:Nat) (lv:Value),vs=[lv,iv i]/\i<=r.imgs.length/\w'.ownsRow w1.heap.size 3 1 lv (L5++(r.imgs.take i).map (·.1)).length ((L5++(r.imgs.take i).map (·.1)).map iv)/\Fm (λ_=>False) w1 w',λvs _=>(r.imgs.length - nth vs 1).toNat,⟨0,v5,rfl,by omega,by simpa using ho5,hF5⟩,?_⟩;rintro _ w6 lv iv6 ⟨i,lv',hvs,hile,ho6,hF6⟩;cases hvs;have hz6:=hF6.size;have hti:((r.imgs.take i).map (·.1)).length=i:=by rw[List.length_map,List.length_take];omega
 by_cases hlt:i<r.imgs.length
 ·have hx:r.imgs[i]?=some r.imgs[i]:=List.getElem?_eq_getElem hlt;generalize r.imgs[i]=m at hx;obtain⟨ad,u,hix,hcv,hone,hpg⟩:=(hi.keep (Fmf hf1 hF6)).ld hx;have d1:decide ((i:Int)<(r.imgs.length:Int))=true:=by rw[decide_eq_true_eq];omega
  have e1:IntKind.i64.wrap ((i:Int)+1)=((i+1:Nat):Int):=by rw[af]<;>omega
  simp only[RS,d1,hix,hcv];refine ae ?_;intro x7 w7 hx7 hs7 hw7 hf7;refine ao hw7 rfl (qO _) (by intro q hq;simp[imC,pcs] at hq;rcases hq with rfl|rfl|rfl|rfl|rfl|rfl|rfl<;>first|rfl|exact hone) ?_;intro w8 hw8 hs8 hf8;have hf68:Fm (λ_=>False) w6 w8:=Fm.own hf7 hf8 (by rintro y rfl;omega);have ho8:=ah ho6 hf68 (λ_ _ _ _ e=>e);have c8:w8.cell? ⟨x7,0,none⟩=some (iv m.1):=by rw[ab hw8];rfl
  have hF8:=Fmf hF6 hf68;have hz8:=hF8.size;simp only[RS,c8];refine nM ho8 (dC _ _) rfl (by rw[List.length_append,hti];omega) hz8 ?_;intro v9 w9 ho9 hf9;simp only[RS,e1];refine⟨⟨i+1,v9,rfl,by omega,?_,Fm.own hF8 hf9 (λy e=>e)⟩,by simp only[cN];omega⟩;have e2:L5++(r.imgs.take (i+1)).map (·.1)=L5++(r.imgs.take i).map (·.1)++[m.1]:=by rw[List.take_add_one,hx];simp
  rw[e2];exact ho9
 ·have hie:i=r.imgs.length:=by omega
  subst hie;have d1:decide (((r.imgs.length:Nat):Int)<(r.imgs.length:Int))=false:=by simp
  rw[List.take_length] at ho6;have hl6:(L5++r.imgs.map (·.1)).length<=4000009:=by rw[List.length_append,List.length_map];omega
  generalize L5++r.imgs.map (·.1)=L6 at ho6 hl6;have hR6:=hR1.keep hF6 id;have hp6:=hp.keep (Fmf hf1 hF6) iT;simp only[RS,d1,hR6.c14,hp6.lenV];refine⟨λvs w'=>∃(i:Nat) (lv:Value),vs=[lv,iv i]/\i<=r.pages.length/\w'.ownsRow w1.heap.size 3 1 lv (L6++prs (r.pages.take i)).length ((L6++prs (r.pages.take i)).map iv)/\Fm (λ_=>False) w1 w',λvs _=>(r.pages.length - nth vs 1).toNat,⟨0,lv,rfl,by omega,by simpa[prs] using ho6,hF6⟩,?_⟩;rintro _ w7 lv iv7 ⟨i,lv',hvs,hile,ho7,hF7⟩;cases hvs;have hz7:=hF7.size;have hti:(prs (r.pages.take i)).length=i*2:=by have:=congrArg List.length (yc (r.pages.take i));rw[List.length_map,flat_len dL,List.length_take,Nat.min_eq_left hile] at this;omega
  by_cases hlt:i<r.pages.length
  ·have hx:r.pages[i]?=some r.pages[i]:=List.getElem?_eq_getElem hlt;generalize r.pages[i]=m at hx;obtain⟨ad,hix,hcv,_⟩:=gS dL (by omega) (hp.keep (Fmf hf1 hF7) iT) hx;have d1:decide ((i:Int)<(r.pages.length:Int))=true:=by rw[decide_eq_true_eq];omega
   have e1:IntKind.i64.wrap ((i:Int)+1)=((i+1:Nat):Int):=by rw[af]<;>omega
   simp only[RS,d1,hix,hcv];refine ae ?_;intro x8 w8 hx8 hs8 hw8 hf8;refine ao hw8 rfl (dL _) (by intro q hq;simp[pc2] at hq;rcases hq with rfl|rfl<;>rfl) ?_;intro w9 hw9 hs9 hf9;have hf79:Fm (λ_=>False) w7 w9:=Fm.own hf8 hf9 (by rintro y rfl;omega);have ho9:=ah ho7 hf79 (λ_ _ _ _ e=>e);have c0:w9.cell? ⟨x8,0,none⟩=some (iv m.1):=by rw[ab hw9];rfl
   have c1:w9.cell? ⟨x8,1,none⟩=some (iv m.2):=by rw[ab hw9];rfl
   have hF9:=Fmf hF7 hf79;have hz9:=hF9.size;simp only[RS,c0,c1];refine nM ho9 (ou _ _ _) rfl (by rw[List.length_append,hti];omega) hz9 ?_;intro v10 w10 ho10 hf10;simp only[RS,e1];refine⟨⟨i+1,v10,rfl,by omega,?_,Fm.own hF9 hf10 (λy e=>e)⟩,by simp only[cN];omega⟩;have e2:L6++prs (r.pages.take (i+1))=L6++prs (r.pages.take i)++[m.1,m.2]:=by rw[List.take_add_one,hx];simp[prs]
   rw[e2];exact ho10
  ·have hie:i=r.pages.length:=by omega
   subst hie;have d1:decide (((r.pages.length:Nat):Int)<(r.pages.length:Int))=false:=by simp
   rw[List.take_length] at ho7 hti;have hl7:(L6++prs r.pages).length<=8000009:=by rw[List.length_append,hti];omega
   generalize L6++prs r.pages=L7 at ho7 hl7;have hR7:=hR1.keep hF7 id;have ht7:=ht.keep (Fmf hf1 hF7) iT;simp only[RS,d1,hR7.c15,ht7.lenV];refine⟨λvs w'=>∃(i:Nat) (lv:Value),vs=[lv,iv i]/\i<=r.txns.length/\w'.ownsRow w1.heap.size 3 1 lv (L7++prs (r.txns.take i)).length ((L7++prs (r.txns.take i)).map iv)/\Fm (λ_=>False) w1 w',λvs _=>(r.txns.length - nth vs 1).toNat,⟨0,lv,rfl,by omega,by simpa[prs] using ho7,hF7⟩,?_⟩;rintro _ w8 lv iv8 ⟨i,lv',hvs,hile,ho8,hF8⟩;cases hvs;have hz8:=hF8.size;have hti:(prs (r.txns.take i)).length=i*2:=by have:=congrArg List.length (yc (r.txns.take i));rw[List.length_map,flat_len dL,List.length_take,Nat.min_eq_left hile] at this;omega
   by_cases hlt:i<r.txns.length
   ·have hx:r.txns[i]?=some r.txns[i]:=List.getElem?_eq_getElem hlt;generalize r.txns[i]=m at hx;obtain⟨ad,hix,hcv,_⟩:=gS dL (by omega) (ht.keep (Fmf hf1 hF8) iT) hx;have d1:decide ((i:Int)<(r.txns.length:Int))=true:=by rw[decide_eq_true_eq];omega
    have e1:IntKind.i64.wrap ((i:Int)+1)=((i+1:Nat):Int):=by rw[af]<;>omega
    simp only[RS,d1,hix,hcv];refine ae ?_;intro x9 w9 hx9 hs9 hw9 hf9;refine ao hw9 rfl (dL _) (by intro q hq;simp[pc2] at hq;rcases hq with rfl|rfl<;>rfl) ?_;intro w10 hw10 hs10 hf10;have hf810:Fm (λ_=>False) w8 w10:=Fm.own hf9 hf10 (by rintro y rfl;omega);have ho10:=ah ho8 hf810 (λ_ _ _ _ e=>e);have c0:w10.cell? ⟨x9,0,none⟩=some (iv m.1):=by rw[ab hw10];rfl
    have c1:w10.cell? ⟨x9,1,none⟩=some (iv m.2):=by rw[ab hw10];rfl
    have hF10:=Fmf hF8 hf810;have hz10:=hF10.size;simp only[RS,c0,c1];refine nM ho10 (ou _ _ _) rfl (by rw[List.length_append,hti];omega) hz10 ?_;intro v11 w11 ho11 hf11;simp only[RS,e1];refine⟨⟨i+1,v11,rfl,by omega,?_,Fm.own hF10 hf11 (λy e=>e)⟩,by simp only[cN];omega⟩;have e2:L7++prs (r.txns.take (i+1))=L7++prs (r.txns.take i)++[m.1,m.2]:=by rw[List.take_add_one,hx];simp[prs]
    rw[e2];exact ho11
   ·have hie:i=r.txns.length:=by omega
    subst hie;have d1:decide (((r.txns.length:Nat):Int)<(r.txns.length:Int))=false:=by simp
    rw[List.take_length] at ho8;simp only[RS,d1];exact⟨aU ho8 (by omega),Fmf hf1 hF8⟩
theorem zG(w:World)(n:Int):Cl prog 325 [iv n] w λv w'=>v=.bool (vr n)/\w'=w:=by
 refine c325 ?_;unfold vr;simp only[RS];cases h1:decide (n<0) with
 | true=>simp only[RS,Bool.true_or];exact⟨(by trivial),(by trivial)⟩
 | false=>simp only[RS,Bool.false_or];exact⟨(by trivial),(by trivial)⟩
theorem nn{w:World}{v:Value}{L:List Int}(h:CellsAt w v L.length 1 (L.map iv)):Cl prog 103 [v,.func (.func 325) #[] #[]] w λu w'=>u=.bool (L.any vr)/\w'=w:=by
 have hlt:=h.lt;unfold maxLen at hlt;have key:Cl prog 101 [v,.func (.func 325) #[] #[]] w λu w'=>∃i:Int,u=iv i/\decide (0<=i)=L.any vr/\w'=w:=by
  refine c101 ?_;simp only[RS,h.lenV];refine⟨λvs w2=>∃i:Nat,vs=[iv i]/\i<=L.length/\(L.take i).any vr=false/\w2=w,λvs _=>(L.length - nth vs 0).toNat,⟨0,rfl,by omega,rfl,rfl⟩,?_⟩;rintro _ w2 ivv ⟨i,hvs,hi,hno,rfl⟩;cases hvs;by_cases hl:i<L.length
  ·have e1:decide ((i:Int)<(L.length:Int))=true:=by rw[decide_eq_true_eq];omega
   have e2:IntKind.i64.wrap ((i:Int)+1)=((i+1:Nat):Int):=by rw[af]<;>omega
   have hx:L[i]?=some L[i]:=List.getElem?_eq_getElem hl;generalize L[i]=n at hx;obtain⟨ad,hix,_,hc⟩:=h.j4 (i:=i) (x:=iv n) (by rw[List.getElem?_map,hx];rfl) .i64;simp only[RS,e1,hix,hc];refine ay (by kernel_rfl) ?_;refine(zG w2 n).mono ?_;rintro _ w3 ⟨rfl,rfl⟩;cases hb:vr n with
   | true=>simp only[RS];refine⟨i,(by trivial),?_,(by trivial)⟩;rw[decide_eq_true (by omega)];exact(List.any_eq_true.2 ⟨n,List.mem_of_getElem? hx,hb⟩).symm
   | false=>simp only[RS,e2];refine⟨⟨i+1,rfl,by omega,?_,(by trivial)⟩,by simp only[ba];omega⟩;rw[List.take_add_one,hx,List.any_append,hno];simp[hb]
  ·have hie:i=L.length:=by omega
   subst hie;have e1:decide (((L.length:Nat):Int)<(L.length:Int))=false:=by simp
   rw[List.take_length] at hno;simp only[RS,e1];exact⟨-1,(by trivial),by rw[hno];rfl,(by trivial)⟩
 refine c103 ?_;refine key.mono ?_;rintro _ w2 ⟨i,rfl,hi,rfl⟩;simp only[RS,hi];exact⟨(by trivial),(by trivial)⟩
theorem uZ{t:Bs}{b:UInt8}(h:t[t.length - 1]?=some b):iG t=bif decide (b=0) then iG (t.take (t.length - 1)) else t:=by
 have hl:=(List.getElem?_eq_some_iff.1 h).1;have ht:t=t.take (t.length - 1)++[b]:=by have:=List.take_append_drop (t.length - 1) t;rw[List.drop_eq_getElem_cons hl,(List.getElem?_eq_some_iff.1 h).2,show t.length - 1+1=t.length by omega,List.drop_length] at this;exact this.symm
 generalize t.take (t.length - 1)=s at ht;subst ht;unfold iG;rw[List.reverse_append,List.reverse_singleton,List.singleton_append,List.dropWhile_cons];cases hb:decide (b=0) with
 | true=>
  rw[decide_eq_true_eq] at hb;subst hb
  rfl
 | false=>rw[decide_eq_false_iff_not] at hb;rw[if_neg (by simpa using hb)];simp
theorem vc(w:World)(s:Bs)(hs:s.length<=1000000):Cl prog 381 [stv s,stv [0]] w λv w'=>v=stv (iG s)/\w'=w:=by
 refine c381 ?_;have e0:decide (([0]:Bs)=[])=false:=by decide
 simp only[RS,cP,bn,e0];cases hn:decide (s=[]) with
 | true=>rw[decide_eq_true_eq] at hn;subst hn;simp only[RS];exact⟨(by trivial),(by trivial)⟩
 | false=>
 have e1:bo (stv [0])=some (iv 1):=rfl;have e2:ixS (stv [0]) (Value.int .i64 0)=some (.int .u8 0):=rfl;have e3:decide ((0:Int)<128)=true:=by decide
 have e4:(((str ([0]:Bs)).size:Int) == 1)=true:=rfl;have e5:decide (str ([0]:Bs)=str [])=false:=by rw[decide_eq_false_iff_not,bn];decide
 simp only[RS,e1,e2,e3,e4,e5];refine c395 ?_;refine⟨λvs w2=>∃t:Bs,vs=[stv t]/\t.length<=s.length/\iG t=iG s/\w2=w,λvs _=>match vs with
  | [.string b]=>b.size
  | _=>0,⟨s,rfl,Nat.le_refl _,rfl,rfl⟩,?_⟩
 rintro _ w2 tv ⟨t,hvs,hl,htr,rfl⟩;cases hvs;simp only[RS,aq];by_cases h0:0<t.length
 ·have d1:decide ((0:Int)<(t.length:Int))=true:=by rw[decide_eq_true_eq];omega
  have e5:IntKind.i64.wrap ((t.length:Int) - 1)=((t.length - 1:Nat):Int):=by rw[af]<;>omega
  have hx:t[t.length - 1]?=some t[t.length - 1]:=List.getElem?_eq_getElem (by omega);generalize t[t.length - 1]=b at hx;have hlast:=uZ hx;have e6:=iW hx .i64;have e7:((b.toNat:Int) == 0)=decide (b=0):=by
   rw[aV,decide_eq_decide];constructor
   ·intro e;exact UInt8.toNat_inj.1 (by simpa using (show b.toNat=0 by omega))
   ·rintro rfl;rfl
  have e8:=gn (l:=t) (i:=t.length - 1) (by omega) .i64;simp only[RS,d1,aq,e5,e6,e7];cases hb:decide (b=0) with
  | true=>rw[hb,cond_true] at hlast;simp only[RS,aq,e5,e8];refine⟨⟨t.take (t.length - 1),rfl,by rw[List.length_take];omega,by rw[<- hlast];exact htr,(by trivial)⟩,?_⟩;simp only[aq,List.length_take];omega
  | false=>rw[hb,cond_false] at hlast;simp only[RS];exact⟨by rw[<- htr,hlast],(by trivial)⟩
 ·have ht0:t=[]:=List.eq_nil_of_length_eq_zero (by omega);subst ht0;have d1:decide ((0:Int)<(([]:Bs).length:Int))=false:=by decide
  simp only[RS,d1];exact⟨by rw[<- htr];rfl,(by trivial)⟩
theorem Et(a1 a2:Option Addr)(n1 c1 n2 c2:Nat)(w:World):(Instr.build 441 #[(0,.slice a1 n1 c1),(1,.slice a2 n2 c2)]).run prog w=.ok (.agg #[.slice a1 n1 c1,.slice a2 n2 c2]) w:=by kernel_rfl
theorem CC{w:World}{x:Nat}{m:Int}{p:Pg}{u:Value}(h:w.heap[x]?=some (.cells (imC (m,p,u)).toArray 233)):aM w ⟨x,1,none⟩ 6=some (.agg (pcs p u)):=by
 refine aN (l:=(pcs p u).toList) rfl (λj hj=>?_);have:j=0\/j=1\/j=2\/j=3\/j=4\/j=5:=by omega
 rcases this with rfl|rfl|rfl|rfl|rfl|rfl<;>(rw[aC,ab h];rfl)
theorem BF(a b:Int):cz [a,b]=prB (a,b):=by simp[cz,prB]
theorem yf{p:Int×Int}(h1:p.1<=9223372036854775807)(h2:p.2<=9223372036854775807):(prB p).length<=18:=by have:=aK h1;have:=aK h2;unfold prB;rw[List.length_append];omega
theorem uh{w:World}{cs:Array Value}{r:Rc}(h:RcAs w cs r)(hlong:fk r=false):Cl prog 326 [.agg cs] w λv w'=>v=.tuple #[stv (iy r).1,iv (iy r).2]/\Fm (λ_=>False) w w':=by
 obtain⟨vs,vm,vi,vp,vt,hcs,_,hs,hm,hi,hp,ht⟩:=h.ex;simp only[fk,Bool.or_eq_false_iff,decide_eq_false_iff_not] at hlong;obtain⟨⟨⟨⟨⟨l1,l2⟩,l3⟩,l4⟩,l5⟩,l6⟩:=hlong;have hins:=h.ins;have hk8:=h.kin;have n9:∀n∈[r.lsn,r.prev,r.next,r.redo,r.xid,r.page,r.slot,r.old,r.new],In n:=λn hn=>hins n (by unfold rNums;simp only[List.mem_append];exact .inl (.inl (.inl (.inl (.inl hn)))));have nsl:∀n∈r.slots,n<=9223372036854775807:=λn hn=>(hins n (by unfold rNums;simp only[List.mem_append];exact .inl (.inl (.inl (.inl (.inr hn)))))).2;have nmo:∀n∈r.more,n<=9223372036854775807:=λn hn=>(hins n (by unfold rNums;simp only[List.mem_append];exact .inl (.inl (.inl (.inr hn))))).2;have nim:∀m∈r.imgs,m.1<=9223372036854775807:=λm hm=>(hins m.1 (by unfold rNums;simp only[List.mem_append];exact .inl (.inl (.inr (List.mem_map.2 ⟨m,hm,rfl⟩))))).2;have npg:∀m∈r.pages,m.1<=9223372036854775807/\m.2<=9223372036854775807:=λm hm=>⟨(hins m.1 (by unfold rNums;simp only[List.mem_append];exact .inl (.inr (fl hm).1))).2,(hins m.2 (by unfold rNums;simp only[List.mem_append];exact .inl (.inr (fl hm).2))).2⟩;have ntx:∀m∈r.txns,m.1<=9223372036854775807/\m.2<=9223372036854775807:=λm hm=>⟨(hins m.1 (by unfold rNums;simp only[List.mem_append];exact .inr (fl hm).1)).2,(hins m.2 (by unfold rNums;simp only[List.mem_append];exact .inr (fl hm).2)).2⟩;have nhd:∀n∈iU r,n<=9223372036854775807:=λn hn=>by unfold iU at hn;simp only[List.mem_cons,List.not_mem_nil,or_false] at hn;rcases hn with rfl|rfl|rfl|rfl|rfl|rfl|rfl|rfl|rfl|rfl<;>first|omega|exact(n9 _ (by simp)).2
 refine c326 ?_;refine ae ?_;intro x1 w1 hx1 hs1 hw1 hf1;have hR1:RB w1 x1 r vs vm vi vp vt:=⟨by rw[<- hcs];exact hw1⟩;have hlt1:=hR1.lt;have kS:∀{w'},Fm (λ_=>False) w1 w'->CellsAt w' vs r.slots.length 1 (r.slots.map iv):=λhf=>hs.keep (Fmf hf1 hf) iT;have kM:∀{w'},Fm (λ_=>False) w1 w'->CellsAt w' vm r.more.length 1 (r.more.map iv):=λhf=>hm.keep (Fmf hf1 hf) iT;have kI:∀{w'},Fm (λ_=>False) w1 w'->ImAs w' vi r.imgs:=λhf=>hi.keep (Fmf hf1 hf);have kP:∀{w'},Fm (λ_=>False) w1 w'->CellsAt w' vp r.pages.length 2 (r.pages.flatMap pc2):=λhf=>hp.keep (Fmf hf1 hf) iT;have kT:∀{w'},Fm (λ_=>False) w1 w'->CellsAt w' vt r.txns.length 2 (r.txns.flatMap pc2):=λhf=>ht.keep (Fmf hf1 hf) iT;have kR:∀{w'},Fm (λ_=>False) w1 w'->RB w' x1 r vs vm vi vp vt:=λhf=>hR1.keep hf id;have blt:∀{v:Value} {ns:List Int},CellsAt w v ns.length 1 (ns.map iv)->ns≠[]->∀g,blockOf v=some g->g<w1.heap.size:=λhc hne g hg=>by have:=hc.blt (by simpa using hne) g hg;omega
 refine WS.new (Fm.refl _ w1) ?_;intro w2 rw h2 hf2;have hR2:=kR hf2;have ek:IntKind.i64.wrap r.kind=r.kind:=by rw[af];omega
 have ekc:cvI .i64 (.int .u8 r.kind)=some (iv r.kind):=by show some (Value.int .i64 (IntKind.i64.wrap r.kind))=_;rw[ek]
 simp only[RS,hR2.c0,hR2.c1,hR2.c2,hR2.c3,hR2.c4,hR2.c5,hR2.c6,hR2.c7,hR2.c8,hR2.c9,ekc];refine h2.lit (Cj _ _ _ _ _ _ _ _ _ _ _) rfl (λn hn=>nhd n hn) (by simp) ?_;intro u3 w3 h3
 replace h3:WS w1 w3 rw (cz (iU r)):=by have:=h3;rw[List.nil_append] at this;exact this
 have hl3:(cz (iU r)).length<=90:=by have:=il nhd;exact this
 have hR3:=kR h3.fm;simp only[RS,hR3.c10];refine h3.text (by omega) (by omega) ?_;intro u4 w4 h4;have hR4:=kR h4.fm;have hl4:(cz (iU r)++iM r.data).length<=700:=by have:=aK (n:=r.data.length) (by omega);rw[List.length_append];unfold iM;rw[List.length_append];omega
 simp only[RS,hR4.A4,hR4.c12];have hsv:∃a c,vs=.slice a r.slots.length c:=by obtain⟨⟨a,c,e,_⟩,_⟩:=hs;exact⟨a,c,e⟩
 have hmv:∃a c,vm=.slice a r.more.length c:=by obtain⟨⟨a,c,e,_⟩,_⟩:=hm;exact⟨a,c,e⟩
 have hbld:(Instr.build 441 #[(0,vs),(1,vm)]).run prog w4=.ok (.agg #[vs,vm]) w4:=by obtain⟨a,c,rfl⟩:=hsv;obtain⟨a',c',rfl⟩:=hmv;exact Et _ _ _ _ _ _ _
 refine ag hbld ?_;generalize hB4:cz (iU r)++iM r.data=B4 at h4 hl4;refine⟨λvl w'=>(vl=[iv 0]/\WS w1 w' rw B4)\/(vl=[iv 1]/\WS w1 w' rw (B4++dV r.slots))\/(vl=[iv 2]/\WS w1 w' rw (B4++dV r.slots++dV r.more)),λvl _=>(2 - nth vl 0).toNat,.inl ⟨rfl,h4⟩,?_⟩;have hls:(dV r.slots).length<=2400:=by have:=il nsl;have:=aK (n:=r.slots.length) (by omega);unfold dV;rw[List.length_append];omega
 have hlm:(dV r.more).length<=2400:=by have:=il nmo;have:=aK (n:=r.more.length) (by omega);unfold dV;rw[List.length_append];omega
 rintro _ w5 iv5 (⟨hvl,h5⟩|⟨hvl,h5⟩|⟨hvl,h5⟩)
 ·cases hvl;have d1:decide ((0:Int)<2)=true:=by decide
  have e1:ixG false 2 1 (.agg #[vs,vm]) (iv 0)=some vs:=rfl;have e2:IntKind.i64.wrap (0+1)=1:=rfl;simp only[RS,d1,e1,(kS h5.fm).lenV];refine h5.lit (dC _ _) rfl (by intro n hn;simp at hn;omega) (by omega) ?_;intro u6 w6 h6;rw[jm] at h6;have:=aK (n:=r.slots.length) (by omega);refine h6.num (kS h6.fm) (blt hs) nsl (by rw[List.length_append];omega) ?_;intro u7 w7 h7;simp only[RS,e2];exact⟨.inr (.inl ⟨(by trivial),by have:=h7;rw[List.append_assoc] at this;exact this⟩),by simp[nth,iv]⟩
 ·cases hvl;have d1:decide ((1:Int)<2)=true:=by decide
  have e1:ixG false 2 1 (.agg #[vs,vm]) (iv 1)=some vm:=rfl;have e2:IntKind.i64.wrap (1+1)=2:=rfl;simp only[RS,d1,e1,(kM h5.fm).lenV];refine h5.lit (dC _ _) rfl (by intro n hn;simp at hn;omega) (by rw[List.length_append];omega) ?_;intro u6 w6 h6;rw[jm] at h6;have:=aK (n:=r.more.length) (by omega);refine h6.num (kM h6.fm) (blt hm) nmo (by simp only[List.length_append];omega) ?_;intro u7 w7 h7;simp only[RS,e2];exact⟨.inr (.inr ⟨(by trivial),by have:=h7;rw[List.append_assoc (B4++dV r.slots)] at this;exact this⟩),by simp[nth,iv]⟩
 ·cases hvl;have d1:decide ((2:Int)<2)=false:=by decide
  have hR5:=kR h5.fm;have hl5:(B4++dV r.slots++dV r.more).length<=6000:=by simp only[List.length_append];omega
  generalize hB5:B4++dV r.slots++dV r.more=B5 at h5 hl5;simp only[RS,d1,hR5.c13,(kI h5.fm).lenV];refine h5.lit (dC _ _) rfl (by intro n hn;simp at hn;omega) (by omega) ?_;intro u6 w6 h6;rw[jm] at h6;have hR6:=kR h6.fm;have hl6:(B5++bG (r.imgs.length:Int)).length<=6010:=by have:=aK (n:=r.imgs.length) (by omega);rw[List.length_append];omega
  generalize hB6:B5++bG (r.imgs.length:Int)=B6 at h6 hl6;simp only[RS,hR6.c13,(kI h6.fm).lenV];refine⟨λvl w'=>∃i:Nat,vl=[iv i]/\i<=r.imgs.length/\WS w1 w' rw (B6++(r.imgs.take i).flatMap sI)/\(B6++(r.imgs.take i).flatMap sI).length<=6010+600*i/\dT r.imgs=dT (r.imgs.drop i),λvl _=>(r.imgs.length - nth vl 0).toNat,⟨0,rfl,by omega,by simpa using h6,by simpa using hl6,rfl⟩,?_⟩;rintro _ w7 iv7 ⟨i,hvl,hile,h7,hl7,hie⟩;cases hvl;by_cases hlt:i<r.imgs.length
  ·have hx:r.imgs[i]?=some r.imgs[i]:=List.getElem?_eq_getElem hlt;have hdr:=List.drop_eq_getElem_cons hlt;generalize r.imgs[i]=m at hx hdr;rw[hdr] at hie;have hmm:=List.mem_of_getElem? hx;obtain⟨ad,u,hix,hcv,hone,hpg⟩:=(kI h7.fm).ld hx;have d2:decide ((i:Int)<(r.imgs.length:Int))=true:=by rw[decide_eq_true_eq];omega
   have e1:IntKind.i64.wrap ((i:Int)+1)=((i+1:Nat):Int):=by rw[af]<;>omega
   simp only[RS,d2,hix,hcv];refine ae ?_;intro x8 w8 hx8 hs8 hw8 hf8;refine ao hw8 rfl (qO _) (by intro q hq;simp[imC,pcs] at hq;rcases hq with rfl|rfl|rfl|rfl|rfl|rfl|rfl<;>first|rfl|exact hone) ?_;intro w9 hw9 hs9 hf9;have hf79:Fm (λ_=>False) w7 w9:=Fm.own hf8 hf9 (by rintro y rfl;omega);have h9:=h7.keep hf79;simp only[RS,CC hw9];refine(cI (hpg.keep hf79)).mono ?_;rintro _ w10 ⟨rfl,hf10⟩;have h10:=h9.keep hf10;have he:tV m.2=.tuple #[stv (pEnc m.2).1,iv (pErr m.2)]:=by unfold tV;rw[sW]
   rw[he];simp only[RS,aG];rw[show dT (m::r.imgs.drop (i+1))=bif decide (pErr m.2=0) then dT (r.imgs.drop (i+1)) else pErr m.2 from rfl] at hie;cases hz:decide (pErr m.2=0) with
   | false=>
    rw[hz,cond_false] at hie;have hz':decide (dT r.imgs=0)=false:=by rw[hie];exact hz
    simp only[RS];refine⟨?_,Fmf hf1 h10.fm⟩;unfold iy;rw[hz',cond_false,hie]
    rfl
   | true=>
    rw[hz,cond_true] at hie;have h0:pErr m.2=0:=by simpa using hz
    have c10:w10.cell? ⟨x8,0,none⟩=some (iv m.1):=by rw[ab (hf10.heap hw9 id)];rfl
    simp only[RS,c10];refine h10.lit (dC _ _) rfl (by intro n hn;simp at hn;subst hn;exact nim m hmm) (by omega) ?_;intro u11 w11 h11;rw[jm] at h11;have hel:=aK (nim m hmm);have hlen:=iq h0;obtain⟨_,htl⟩:=tr hlen;refine(vc w11 (pEnc m.2).1 (by omega)).mono ?_;rintro _ w12 ⟨rfl,rfl⟩;refine h11.text (by omega) (by rw[List.length_append];omega) ?_;intro u13 w13 h13;simp only[RS,e1];have e2:B6++(r.imgs.take (i+1)).flatMap sI=B6++(r.imgs.take i).flatMap sI++bG m.1++iM (iG (pEnc m.2).1):=by rw[List.take_add_one,hx];simp[sI]
    refine⟨⟨i+1,rfl,by omega,by rw[e2];exact h13,?_,hie⟩,by simp only[ba];omega⟩;rw[e2];have:=aK (n:=(iG (pEnc m.2).1).length) (by omega);simp only[List.length_append] at hl7 ⊢;unfold iM;rw[List.length_append];omega
  ·have hie2:i=r.imgs.length:=by omega
   subst hie2;rw[List.drop_length] at hie;have d2:decide (((r.imgs.length:Nat):Int)<(r.imgs.length:Int))=false:=by simp
   rw[List.take_length] at h7 hl7;have hl7':(B6++r.imgs.flatMap sI).length<=9000:=by omega
   generalize hB7:B6++r.imgs.flatMap sI=B7 at h7 hl7';have hR7:=kR h7.fm;simp only[RS,d2,hR7.c14,(kP h7.fm).lenV];refine h7.lit (dC _ _) rfl (by intro n hn;simp at hn;omega) (by omega) ?_;intro u16 w16 h16;rw[jm] at h16;have hR16:=kR h16.fm;have hl16:(B7++bG (r.pages.length:Int)).length<=9100:=by have:=aK (n:=r.pages.length) (by omega);rw[List.length_append];omega
   generalize hB16:B7++bG (r.pages.length:Int)=B16 at h16 hl16;simp only[RS,hR16.c14,(kP h16.fm).lenV];refine⟨λvl w'=>∃i:Nat,vl=[iv i]/\i<=r.pages.length/\WS w1 w' rw (B16++(r.pages.take i).flatMap prB)/\(B16++(r.pages.take i).flatMap prB).length<=9100+18*i,λvl _=>(r.pages.length - nth vl 0).toNat,⟨0,rfl,by omega,by simpa using h16,by simpa using hl16⟩,?_⟩;rintro _ w17 iv17 ⟨i,hvl,hile,h17,hl17⟩;cases hvl;by_cases hlt:i<r.pages.length
   ·have hx:r.pages[i]?=some r.pages[i]:=List.getElem?_eq_getElem hlt;generalize r.pages[i]=m at hx;have hmm:=List.mem_of_getElem? hx;obtain⟨ad,hix,hcv,_⟩:=gS dL (by omega) (kP h17.fm) hx;have d2:decide ((i:Int)<(r.pages.length:Int))=true:=by rw[decide_eq_true_eq];omega
    have e1:IntKind.i64.wrap ((i:Int)+1)=((i+1:Nat):Int):=by rw[af]<;>omega
    simp only[RS,d2,hix,hcv];refine ae ?_;intro x8 w8 hx8 hs8 hw8 hf8;refine ao hw8 rfl (dL _) (by intro q hq;simp[pc2] at hq;rcases hq with rfl|rfl<;>rfl) ?_;intro w9 hw9 hs9 hf9;have hf79:Fm (λ_=>False) w17 w9:=Fm.own hf8 hf9 (by rintro y rfl;omega);have h9:=h17.keep hf79;have c0:w9.cell? ⟨x8,0,none⟩=some (iv m.1):=by rw[ab hw9];rfl
    have c1:w9.cell? ⟨x8,1,none⟩=some (iv m.2):=by rw[ab hw9];rfl
    simp only[RS,c0,c1];obtain⟨hm1,hm2⟩:=npg m hmm;refine h9.lit (ou _ _ _) rfl (by intro n hn;simp at hn;rcases hn with rfl|rfl<;>assumption) (by omega) ?_;intro u11 w11 h11;rw[BF] at h11;simp only[RS,e1];have e2:B16++(r.pages.take (i+1)).flatMap prB=B16++(r.pages.take i).flatMap prB++prB (m.1,m.2):=by rw[List.take_add_one,hx];simp
    refine⟨⟨i+1,rfl,by omega,by rw[e2];exact h11,?_⟩,by simp only[ba];omega⟩;rw[e2];have:=yf (p:=(m.1,m.2)) hm1 hm2;rw[List.length_append];omega
   have hie3:i=r.pages.length:=by omega
   subst hie3;have d17:decide (((r.pages.length:Nat):Int)<(r.pages.length:Int))=false:=by simp
   rw[List.take_length] at h17 hl17;have hl17':(B16++r.pages.flatMap prB).length<=160000:=by omega
   generalize hB17:B16++r.pages.flatMap prB=B17 at h17 hl17';have hR17:=kR h17.fm;simp only[RS,d17,hR17.c15,(kT h17.fm).lenV];refine h17.lit (dC _ _) rfl (by intro n hn;simp at hn;omega) (by omega) ?_;intro u26 w26 h26;rw[jm] at h26;have hR26:=kR h26.fm;have hl26:(B17++bG (r.txns.length:Int)).length<=160100:=by have:=aK (n:=r.txns.length) (by omega);rw[List.length_append];omega
   generalize hB26:B17++bG (r.txns.length:Int)=B26 at h26 hl26;simp only[RS,hR26.c15,(kT h26.fm).lenV];refine⟨λvl w'=>∃i:Nat,vl=[iv i]/\i<=r.txns.length/\WS w1 w' rw (B26++(r.txns.take i).flatMap prB)/\(B26++(r.txns.take i).flatMap prB).length<=160100+18*i,λvl _=>(r.txns.length - nth vl 0).toNat,⟨0,rfl,by omega,by simpa using h26,by simpa using hl26⟩,?_⟩;rintro _ w27 iv27 ⟨i,hvl,hile,h27,hl27⟩;cases hvl;by_cases hlt:i<r.txns.length
   ·have hx:r.txns[i]?=some r.txns[i]:=List.getElem?_eq_getElem hlt;generalize r.txns[i]=m at hx;have hmm:=List.mem_of_getElem? hx;obtain⟨ad,hix,hcv,_⟩:=gS dL (by omega) (kT h27.fm) hx;have d2:decide ((i:Int)<(r.txns.length:Int))=true:=by rw[decide_eq_true_eq];omega
    have e1:IntKind.i64.wrap ((i:Int)+1)=((i+1:Nat):Int):=by rw[af]<;>omega
    simp only[RS,d2,hix,hcv];refine ae ?_;intro x8 w8 hx8 hs8 hw8 hf8;refine ao hw8 rfl (dL _) (by intro q hq;simp[pc2] at hq;rcases hq with rfl|rfl<;>rfl) ?_;intro w9 hw9 hs9 hf9;have hf79:Fm (λ_=>False) w27 w9:=Fm.own hf8 hf9 (by rintro y rfl;omega);have h9:=h27.keep hf79;have c0:w9.cell? ⟨x8,0,none⟩=some (iv m.1):=by rw[ab hw9];rfl
    have c1:w9.cell? ⟨x8,1,none⟩=some (iv m.2):=by rw[ab hw9];rfl
    simp only[RS,c0,c1];obtain⟨hm1,hm2⟩:=ntx m hmm;refine h9.lit (ou _ _ _) rfl (by intro n hn;simp at hn;rcases hn with rfl|rfl<;>assumption) (by omega) ?_;intro u11 w11 h11;rw[BF] at h11;simp only[RS,e1];have e2:B26++(r.txns.take (i+1)).flatMap prB=B26++(r.txns.take i).flatMap prB++prB (m.1,m.2):=by rw[List.take_add_one,hx];simp
    refine⟨⟨i+1,rfl,by omega,by rw[e2];exact h11,?_⟩,by simp only[ba];omega⟩;rw[e2];have:=yf (p:=(m.1,m.2)) hm1 hm2;rw[List.length_append];omega
   have hie3:i=r.txns.length:=by omega
   subst hie3;have d27:decide (((r.txns.length:Nat):Int)<(r.txns.length:Int))=false:=by simp
   rw[List.take_length] at h27 hl27;have hl27':(B26++r.txns.flatMap prB).length<=180000:=by omega
   generalize hB27:B26++r.txns.flatMap prB=B27 at h27 hl27';have hR27:=kR h27.fm;simp only[RS,d27];refine(dq h27.wr.1).mono ?_;rintro _ w30 ⟨rfl,rfl⟩;have hbody:fu r=B27:=by
    rw[<- hB27,<- hB26,<- hB17,<- hB16,<- hB7,<- hB6,<- hB5,<- hB4]
    rfl
   have hie0:decide (dT r.imgs=0)=true:=by rw[hie];rfl
   have d9:decide ((65535:Int)<(B27.length:Int))=decide (65535<B27.length):=by rw[decide_eq_decide];omega
   unfold iy;rw[hie0,cond_true,hbody];simp only[RS,aq,d9];cases hbig:decide (65535<B27.length) with
   | true=>simp only[RS,cond_true];exact⟨(by trivial),Fmf hf1 h27.fm⟩
   | false=>simp only[RS,cond_false];exact⟨(by trivial),Fmf hf1 h27.fm⟩
theorem jf{w:World}{cs:Array Value}{r:Rc}(h:RcAs w cs r):Cl prog 258 [.agg cs] w λv w'=>v=.tuple #[stv (rCheck r).1,iv (rCheck r).2]/\Fm (λ_=>False) w w':=by
 obtain⟨vs,vm,vi,vp,vt,hcs,_,hs,hm,hi,hp,ht⟩:=h.ex;have hk8:=h.kin;refine c258 ?_;refine ae ?_;intro x1 w1 hx1 hs1 hw1 hf1;have hR1:RB w1 x1 r vs vm vi vp vt:=⟨by rw[<- hcs];exact hw1⟩;have h1:=h.keep hf1;rw[hcs] at h1;unfold rCheck;simp only[RS,hR1.c3];cases e1:decide (r.kind<1) with
 | true=>simp only[RS,Bool.true_or,cond_true];exact⟨(by trivial),hf1⟩
 | false=>
 simp only[RS,hR1.c3,Bool.false_or];cases e2:decide (13<r.kind) with
 | true=>simp only[RS,cond_true];exact⟨(by trivial),hf1⟩
 | false=>
 simp only[RS,cond_false,hR1.c0];cases e3:decide (r.lsn<1) with
 | true=>simp only[RS,Bool.true_or,cond_true];exact⟨(by trivial),hf1⟩
 | false=>
 simp only[RS,hR1.all,Bool.false_or];refine(pw h1).mono ?_;rintro v2 w2 ⟨ho2,hf2⟩;refine(nn (CellsAt.aT ho2)).mono ?_;rintro _ w3 ⟨rfl,rfl⟩;have hF2:=Fmf hf1 hf2;have hR2:=hR1.keep hf2 id;cases e4:(rNums r).any vr with
 | true=>simp only[RS,cond_true];exact⟨(by trivial),hF2⟩
 | false=>
 have m1:decide ((512:Int)<(r.data.length:Int))=decide (512<r.data.length):=by rw[decide_eq_decide];omega
 have m2:decide ((255:Int)<(r.slots.length:Int))=decide (255<r.slots.length):=by rw[decide_eq_decide];omega
 have m3:decide ((255:Int)<(r.more.length:Int))=decide (255<r.more.length):=by rw[decide_eq_decide];omega
 have m4:decide ((4:Int)<(r.imgs.length:Int))=decide (4<r.imgs.length):=by rw[decide_eq_decide];omega
 have m5:decide ((8192:Int)<(r.pages.length:Int))=decide (8192<r.pages.length):=by rw[decide_eq_decide];omega
 have m6:decide ((1024:Int)<(r.txns.length:Int))=decide (1024<r.txns.length):=by rw[decide_eq_decide];omega
 simp only[RS,cond_false,hR2.c10,aq,m1];have long:∀{w'},fk r=true->Fm (λ_=>False) w w'->Value.tuple #[.string (ByteArray.mk #[]),.int .i64 3]=.tuple #[stv (bif fk r then(([]:Bs),(3:Int)) else iy r).1,iv (bif fk r then(([]:Bs),(3:Int)) else iy r).2]/\Fm (λ_=>False) w w':=λhl hf=>⟨by rw[hl];rfl,hf⟩;cases q1:decide (512<r.data.length) with
 | true=>simp only[RS];exact long (by simp[fk,q1]) hF2
 | false=>
 simp only[RS,hR2.A4,hs.lenV,m2];cases q2:decide (255<r.slots.length) with
 | true=>simp only[RS];exact long (by simp[fk,q2]) hF2
 | false=>
 simp only[RS,hR2.c12,hm.lenV,m3];cases q3:decide (255<r.more.length) with
 | true=>simp only[RS];exact long (by simp[fk,q3]) hF2
 | false=>
 simp only[RS,hR2.c13,hi.lenV,m4];cases q4:decide (4<r.imgs.length) with
 | true=>simp only[RS];exact long (by simp[fk,q4]) hF2
 | false=>
 simp only[RS,hR2.c14,hp.lenV,m5];cases q5:decide (8192<r.pages.length) with
 | true=>simp only[RS];exact long (by simp[fk,q5]) hF2
 | false=>
 simp only[RS,hR2.c15,ht.lenV,m6];cases q6:decide (1024<r.txns.length) with
 | true=>simp only[RS];exact long (by simp[fk,q6]) hF2
 | false=>
 have hl:fk r=false:=by unfold fk;rw[q1,q2,q3,q4,q5,q6];rfl
 simp only[RS,hR2.all];refine(uh (h1.keep hf2) hl).mono ?_;rintro _ w4 ⟨rfl,hf4⟩;simp only[RS];refine⟨?_,Fmf hF2 hf4⟩;rw[hl]
 rfl
theorem uF(r:Rc):(rCheck r).1.length<=65535:=by
 unfold rCheck;cases decide (r.kind<1)||decide (13<r.kind) with
 | true=>simp
 | false=>
 cases decide (r.lsn<1)||(rNums r).any vr with
 | true=>simp
 | false=>
 cases fk r with
 | true=>simp
 | false=>
 simp only[cond_false];unfold iy;cases decide (dT r.imgs=0) with
 | false=>simp
 | true=>
 cases hb:decide (65535<(fu r).length) with
 | true=>simp
 | false=>rw[decide_eq_false_iff_not] at hb;simp only[cond_true,cond_false];omega
theorem pM{w:World}{cs:Array Value}{r:Rc}(h:RcAs w cs r):Cl prog 259 [.agg cs] w λv w'=>v=.tuple #[stv (lG r).1,iv (lG r).2]/\Fm (λ_=>False) w w':=by
 refine c259 ?_;refine ae ?_;intro x1 w1 hx1 hs1 hw1 hf1;simp only[RS,aa hw1 h.size];refine(jf (h.keep hf1)).mono ?_;rintro _ w2 ⟨rfl,hf2⟩;have hF2:=Fmf hf1 hf2;have hlen:=uF r;unfold lG;simp only[RS,aG];cases hz:decide ((rCheck r).2=0) with
 | false=>simp only[RS,cond_false];exact⟨(by trivial),hF2⟩
 | true=>
 generalize (rCheck r).1=s at hlen;simp only[RS,cond_true,aq];refine(bu w2 (by omega) 4).mono ?_;rintro _ w3 ⟨rfl,hf3⟩;refine(jL w3 s (by omega)).mono ?_;rintro _ w4 ⟨rfl,rfl⟩;obtain⟨q1,q2⟩:=so s;simp only[RS,bR,q2];refine(bu w4 q1 4).mono ?_;rintro _ w5 ⟨rfl,hf5⟩;have g1:eX (s.length:Nat) 4=beN 4 s.length:=ep (n:=s.length) (w:=4) (by omega) (by omega);have g2:eX (crc s:Nat) 4=beN 4 (crc s):=ep (n:=crc s) (w:=4) (by omega) (by omega);rw[g1,g2,mI (by rw[aI,aI];omega)]
 try simp only[RS]
 rw[mI (by rw[List.length_append,aI,aI];omega)]
 try simp only[RS]
 exact⟨(by trivial),Fmf hF2 (Fmf hf3 hf5)⟩
theorem bS(most:Int)(st:St2):0<=(rn most st).1/\(rn most st).1<=max most 0/\(rn most st).2.1.length<=st.1.length:=by
 unfold rn rdNum;cases decide (st.2=0) with
 | true=>exact BL most 9 0 0 st.1
 | false=>exact⟨Int.le_refl _,by show(0:Int)<=_;omega,Nat.le_refl _⟩
theorem pQ{most:Int}(hm:0<=most)(st:St2):((rt most st).1.length:Int)<=most/\(rt most st).2.1.length<=st.1.length:=by
 have h:=bS most st;unfold rt;cases decide ((rn most st).2.2=0) with
 | true=>
  cases hd:decide (((rn most st).2.1.length:Int)<(rn most st).1) with
  | true=>simp;omega
  | false=>simp only[cond_true,cond_false,List.length_take,List.length_drop];omega
 | false=>simp only[cond_false,List.length_nil];omega
theorem yz:∀(n:Nat) (st:St2),(rC n st).1.length<=n/\(∀x∈(rC n st).1,okN x)/\(rC n st).2.1.length<=st.1.length
 | 0,st=>⟨Nat.le_refl _,by simp[rC],Nat.le_refl _⟩
 | n+1,st=>by
  have h:=bS 4611686018427387904 st;have ih:=yz n (rn 4611686018427387904 st).2;have h1:okN (rn 4611686018427387904 st).1:=⟨h.1,by have:=h.2.1;omega⟩;unfold rC;cases decide ((rn 4611686018427387904 st).2.2=0) with
  | true=>
   simp only[cond_true,List.length_cons];refine⟨by omega,λx hx=>?_,by omega⟩;rcases List.mem_cons.1 hx with rfl|hx
   ·exact h1
   ·exact ih.2.1 x hx
  | false=>
   simp only[cond_false];refine⟨by simp,λx hx=>?_,h.2.2⟩;obtain rfl:x=_:=by simpa using hx
   exact h1
theorem yA{most:Int}(hm:0<=most)(st:St2):((rl most st).1.length:Int)<=most/\(∀x∈(rl most st).1,okN x)/\(rl most st).2.1.length<=st.1.length:=by have h:=bS most st;have h2:=yz (rn most st).1.toNat (rn most st).2;unfold rl;exact⟨by omega,h2.2.1,by omega⟩
theorem yy:∀(n:Nat) (st:St2) {r:List (Int×Pg)×St2},vA n st=some r->r.1.length=n/\(∀m∈r.1,okN m.1/\m.2.lsn<=9223372036854775807)/\r.2.1.length<=st.1.length
 | 0,st,r,h=>by cases h;exact⟨rfl,by simp,Nat.le_refl _⟩
 | n+1,st,r,h=>by
  have h0:=bS 4611686018427387904 st;have h1:=pQ (most:=512) (by omega) (rn 4611686018427387904 st).2;unfold vA at h;cases hc:decide ((dK (nH (rt 512 (rn 4611686018427387904 st).2).1)).2=0)&&decide ((rt 512 (rn 4611686018427387904 st).2).2.2=0) with
  | false=>rw[hc,cond_false] at h;cases h
  | true=>
   rw[hc,cond_true,Option.map_eq_some_iff] at h;obtain⟨q,hq,rfl⟩:=h;have ih:=yy n _ hq;rw[Bool.and_eq_true,decide_eq_true_eq] at hc;refine⟨by simp only[List.length_cons];omega,λm hm=>?_,by simp only;omega⟩;rcases List.mem_cons.1 hm with rfl|hm
   ·exact⟨⟨h0.1,by have:=h0.2.1;simp only;omega⟩,(Ct hc.1).2.2⟩
   ·exact ih.2.1 m hm
theorem rE:∀(n:Nat) (st:St2) {r:List (Int×Int)×St2},nN n st=some r->r.1.length=n/\(∀m∈r.1,okN m.1/\okN m.2)/\r.2.1.length<=st.1.length
 | 0,st,r,h=>by cases h;exact⟨rfl,by simp,Nat.le_refl _⟩
 | n+1,st,r,h=>by
  have h0:=bS 4611686018427387904 st;have h1:=bS 4611686018427387904 (rn 4611686018427387904 st).2;unfold nN at h;cases hc:decide (st.2=0) with
  | false=>rw[hc,cond_false] at h;cases h
  | true=>
   rw[hc,cond_true,Option.map_eq_some_iff] at h;obtain⟨q,hq,rfl⟩:=h;have ih:=rE n _ hq;refine⟨by simp only[List.length_cons];omega,λm hm=>?_,by simp only;omega⟩;rcases List.mem_cons.1 hm with rfl|hm
   ·exact⟨⟨h0.1,by have:=h0.2.1;simp only;omega⟩,⟨h1.1,by have:=h1.2.1;simp only;omega⟩⟩
   ·exact ih.2.1 m hm
structure Bnd (r : Rc) : Prop where
 nums : ∀ n ∈ rNums r, okN n
 kind : 0 ≤ r.kind ∧ r.kind ≤ 13
 data : r.data.length ≤ 512
 slots : r.slots.length ≤ 255
 more : r.more.length ≤ 255
 imgs : r.imgs.length ≤ 4
 pages : r.pages.length ≤ 8192
 txns : r.txns.length ≤ 1024
 lsns : ∀ m ∈ r.imgs, m.2.lsn ≤ 9223372036854775807
theorem sL{l:List (Int×Int)}{n:Int}(h:n∈prs l):∃p∈l,n=p.1\/n=p.2:=by unfold prs at h;obtain⟨p,hp,hn⟩:=List.mem_flatMap.1 h;simp at hn;exact⟨p,hp,hn⟩
theorem Dw{a:List Int}{st:St2}{x:Rc}(h:uY a st=some x)(ha:∀i,i<10->i≠3->okN (gI a i))(hk:0<=gI a 3/\gI a 3<=13):Bnd x:=by
 unfold uY at h;have t1:=pQ (most:=512) (by omega) st;have t2:=yA (most:=255) (by omega) (rt 512 st).2;have t3:=yA (most:=255) (by omega) (rl 255 (rt 512 st).2).2;have t4:=bS 4 (rl 255 (rl 255 (rt 512 st).2).2).2;simp only at h;rw[Option.bind_eq_some_iff] at h;obtain⟨im,h1,h⟩:=h;rw[Option.bind_eq_some_iff] at h;obtain⟨pg,h2,h⟩:=h;rw[Option.bind_eq_some_iff] at h;obtain⟨tx,h3,h⟩:=h;have t5:=bS 8192 im.2;have t6:=bS 1024 pg.2;have u1:=yy _ _ h1;have u2:=rE _ _ h2;have u3:=rE _ _ h3;cases he:decide (vy tx.2.1 tx.2.2=0) with
 | false=>rw[he,cond_false] at h;cases h
 | true=>
  rw[he,cond_true] at h;cases h;refine⟨λn hn=>?_,hk,by simp only;omega,by simp only;omega,by simp only;omega,by simp only;omega,by simp only;omega,by simp only;omega,λm hm=>(u1.2.1 m hm).2⟩;unfold rNums at hn;simp only[List.mem_append] at hn;rcases hn with((((hn|hn)|hn)|hn)|hn)|hn
  ·simp only[List.mem_cons,List.not_mem_nil,or_false] at hn;rcases hn with rfl|rfl|rfl|rfl|rfl|rfl|rfl|rfl|rfl<;>exact ha _ (by omega) (by omega)
  ·exact t2.2.1 n hn
  ·exact t3.2.1 n hn
  ·obtain⟨m,hm,rfl⟩:=List.mem_map.1 hn;exact(u1.2.1 m hm).1
  ·obtain⟨p,hp,e|e⟩:=sL hn<;>rw[e]
   ·exact(u2.2.1 p hp).1
   ·exact(u2.2.1 p hp).2
  ·obtain⟨p,hp,e|e⟩:=sL hn<;>rw[e]
   ·exact(u3.2.1 p hp).1
   ·exact(u3.2.1 p hp).2
theorem dA{w:World}{rb:Nat}{st:St2}(h:RdAt w rb st.1 st.2)(hs:st.1.length<=1000000){most:Int}(hm:most<=9223372036854775807):Cl prog 321 [pv rb,iv most] w λv w'=>v=iv (rn most st).1/\RdAt w' rb (rn most st).2.1 (rn most st).2.2/\Fm (·=rb) w w':=wC h most (by omega) hm
theorem fX{w:World}{rb:Nat}{st:St2}(h:RdAt w rb st.1 st.2)(hs:st.1.length<=1000000){most:Int}(hm:most<=9223372036854775807):Cl prog 287 [pv rb,iv most] w λv w'=>v=stv (rt most st).1/\RdAt w' rb (rt most st).2.1 (rt most st).2.2/\Fm (·=rb) w w':=by
 refine c287 ?_;refine(dA h hs hm).mono ?_;have hin:=bS most st;unfold rt;rintro _ w1 ⟨rfl,h1,hf1⟩;generalize (rn most st).1=n at hin ⊢;generalize (rn most st).2=st1 at hin h1;simp only[RS,h1.c1,aG];cases hz:decide (st1.2=0) with
 | false=>simp only[RS,cond_false];exact⟨(by trivial),h1,hf1⟩
 | true=>
  obtain⟨j,rfl⟩:=Int.eq_ofNat_of_zero_le hin.1;simp only[RS,cond_true,h1.c0,aq,Int.toNat_natCast];cases hd:decide ((st1.1.length:Int)<(j:Int)) with
  | true=>
   simp only[RS,cond_true];refine(dP h1 10).mono ?_;rintro _ w2 ⟨rfl,h2,hf2⟩
   try simp only[RS]
   exact⟨(by trivial),h2,hf1.trans hf2 iT iT⟩
  | false=>rw[decide_eq_false_iff_not] at hd;have s1:=gn (l:=st1.1) (i:=j) (by omega) .i64;have s2:=eT (l:=st1.1) (i:=j) (by omega) .i64;simp only[RS,cond_false,h1.c0,s1,s2];refine au h1 (by show 0<2;decide) rfl ?_;intro w2 hw2 hs2 hf2;rw[decide_eq_true_eq] at hz;refine⟨(by trivial),?_,hf1.trans hf2 iT iT⟩;have:RdAt w2 rb (st1.1.drop j) st1.2:=hw2;rw[hz] at this;exact this
theorem uJ{w:World}{rb:Nat}{st:St2}(h:RdAt w rb st.1 st.2)(hs:st.1.length<=1000000):Cl prog 322 [pv rb,iv 255] w λv w'=>w'.ownsRow w.heap.size 3 1 v (rl 255 st).1.length ((rl 255 st).1.map iv)/\RdAt w' rb (rl 255 st).2.1 (rl 255 st).2.2/\Fm (·=rb) w w':=by
 refine c322 ?_;refine aJ (λvs w'=>∃v,vs=[v]/\w'.ownsRow w.heap.size 3 1 v (rl 255 st).1.length ((rl 255 st).1.map iv)/\RdAt w' rb (rl 255 st).2.1 (rl 255 st).2.2/\Fm (·=rb) w w') ?_ ?_
 ·rintro _ w' ⟨v,rfl,g⟩ _;exact⟨v,rfl,g⟩
 ·intro jj hjj;refine(dA h hs (by omega)).mono ?_;have hin:=bS 255 st;unfold rl at hjj;rintro _ w1 ⟨rfl,h1,hf1⟩;generalize (rn 255 st).1=n at hin hjj ⊢;generalize (rn 255 st).2=st1 at hin h1 hjj;obtain⟨N,rfl⟩:=Int.eq_ofNat_of_zero_le hin.1;rw[Int.toNat_natCast] at hjj;have hz1:=hf1.size;refine⟨λvs w'=>∃(i:Nat) (v:Value) (L:List Int) (st2:St2),vs=[v,iv i]/\i<=N/\L.length=i/\w'.ownsRow w.heap.size 3 1 v L.length (L.map iv)/\RdAt w' rb st2.1 st2.2/\st2.1.length<=1000000/\rC N st1=(L++(rC (N - i) st2).1,(rC (N - i) st2).2)/\Fm (·=rb) w w',λvs _=>(N - nth vs 1).toNat,⟨0,_,[],st1,rfl,by omega,rfl,World.ownsRow_nil _ _ _ _,h1,by omega,rfl,hf1⟩,?_⟩;rintro _ w2 v iv2 ⟨i,v0,L,st2,hvs,hi,hL,ho2,h2,hl2,heq,hf2⟩;cases hvs;have hz2:=hf2.size;by_cases hlt:i<N
  ·have d1:decide ((i:Int)<(N:Int))=true:=by rw[decide_eq_true_eq];omega
   have e1:IntKind.i64.wrap ((i:Int)+1)=((i+1:Nat):Int):=by rw[af]<;>omega
   obtain⟨m,hm⟩:∃m,N - i=m+1:=⟨N - i - 1,by omega⟩;have hm1:N - (i+1)=m:=by omega
   simp only[RS,d1];refine(dA h2 hl2 (by omega)).mono ?_;rw[hm,rC] at heq;have hin2:=bS 4611686018427387904 st2;rintro _ w3 ⟨rfl,h3,hf3⟩;generalize (rn 4611686018427387904 st2).1=x at heq hin2 ⊢;generalize (rn 4611686018427387904 st2).2=st3 at heq hin2 h3;have hF3:Fm (·=rb) w w3:=hf2.trans hf3 iT iT;have hz3:=hF3.size;have hrd:RdAt w2 rb st2.1 st2.2:=h2;have hrbne:∀k,v.ownBlock=some k->k≠rb:=by
    intro k hk e;rcases ho2.2 with⟨rfl,_⟩|⟨g,cap,cur,rfl,_,hg,_⟩
    ·cases hk
    ·have e1:g=k:=by simpa[Value.ownBlock] using hk
     rw[e1,e] at hg;have hq:w2.heap[rb]?=_:=hrd;rw[hq] at hg;cases hg
   have ho3:=ah ho2 hf3 (λk _ _ hk e=>hrbne k hk e);refine nM ho3 (dC _ _) rfl (by omega) hz3 ?_;intro v4 w4 ho4 hf4;have hrl:=h.lt;have h4:=h3.keep hf4 (λe=>by omega);have hF4:Fm (·=rb) w w4:=hF3.trans hf4 iT (λy hy e=>by omega);refine(du h4).mono ?_;rintro _ w5 ⟨rfl,rfl⟩;simp only[RS,aG];cases hz:decide (st3.2=0) with
   | false=>rw[hz,cond_false] at heq;simp only[RS];refine hjj _ _ ⟨v4,rfl,?_⟩;rw[heq];exact⟨ho4,h4,hF4⟩
   | true=>rw[hz,cond_true] at heq;simp only[RS,e1];refine⟨⟨i+1,v4,L++[x],st3,rfl,by omega,by rw[List.length_append,hL];rfl,ho4,h4,by omega,?_,hF4⟩,by simp only[cN];omega⟩;rw[heq,hm1];simp
  ·have hie:i=N:=by omega
   subst hie;have d1:decide ((i:Int)<(i:Int))=false:=by simp
   rw[Nat.sub_self,rC] at heq;simp only[List.append_nil] at heq;simp only[RS,d1];refine hjj _ _ ⟨v,rfl,?_⟩;rw[heq];exact⟨ho2,h2,hf2⟩
theorem mY{w:World}{base n bytes sz:Nat}{t e:TypeId}{v:Value}{xs:List Value}(E:ElemT prog t e sz bytes)(hsz:0<sz)(h:w.ownsRow base e sz v n xs){b:Nat}{cs:List Value}(hb:w.heap[b]?=some (.cells cs.toArray e))(hcs:cs.length=sz)(h1:∀u∈cs,u.oneCell'=true)(hn:(n+1)*bytes<=140737488355328)(h63:n+1<=maxLen)(hbs:base<=w.heap.size):
  ∃v' w',(Builtin.append_ #[t,t] t #[v,.slice (some ⟨b,0,none⟩) 1 1]).run prog w=.ok v' w'/\w'.ownsRow base e sz v' (n+1) (xs++cs)/\(∀y,v'.ownBlock=some y->v.ownBlock=some y\/w.heap.size<=y)/\Fm (λy=>v.ownBlock=some y) w w':=by
 obtain⟨v',w',hr,ho,hc⟩:=cC E hsz h t ⟨b,0,none⟩ 1 1 (by omega) cs (by omega) (λj u hj=>by rw[aC,Nat.zero_add,ab hb];simpa using hj) h1 h63 hn hbs;refine⟨v',w',hr,ho,?_⟩;rcases hc with⟨g,e1,e2,e3⟩|⟨g,e1,e2,e3⟩
 ·exact⟨λy hy=>.inl (by rw[e1,<- e2];exact hy),e3.mono (λy _ e=>by rw[e];exact e1)⟩
 ·exact⟨λy hy=>.inr (by rw[e1] at hy;cases hy;exact e2),e3.mono iE⟩
abbrev nl:Value:=.slice none 0 0
def rc0:Rc:=⟨0,0,0,0,0,0,0,0,0,0,[],[],[],[],[],[]⟩
theorem kY{r:Rc}{vs vm vi vp vt:Value}(h1:vs.oneCell'=true)(h2:vm.oneCell'=true)(h3:vi.oneCell'=true)(h4:vp.oneCell'=true)(h5:vt.oneCell'=true):∀u∈(rcs r vs vm vi vp vt).toList,u.oneCell'=true:=by intro u hu;simp[rcs] at hu;rcases hu with rfl|rfl|rfl|rfl|rfl|rfl|rfl|rfl|rfl|rfl|rfl|rfl|rfl|rfl|rfl|rfl<;>first|rfl|assumption
theorem Bo(w:World):(Instr.build 168 #[]).run prog w=.ok (.agg (rcs rc0 nl nl nl nl nl)) w:=by kernel_rfl
theorem zA:lI prog 168=some true:=by kernel_rfl
theorem th:bN prog 168=some 16:=by kernel_rfl
theorem HH:ElemT prog 165 233 7 80:=bJ Tryz.underlying165 (by kernel_rfl)
theorem Ho:ElemT prog 166 189 2 16:=bJ Tryz.underlying166 (by kernel_rfl)
theorem HI:ElemT prog 83 185 2 16:=bJ Tryz.underlying83 (by kernel_rfl)
theorem GA(m:Int)(p:Pg)(a:Option Addr)(n c:Nat)(w:World):(Instr.build 233 #[(0,iv m),(1,.agg (pcs p (.slice a n c)))]).run prog w=.ok (.agg (imC (m,p,.slice a n c)).toArray) w:=by kernel_rfl
theorem HW(m:Int)(p:Pg)(a:Option Addr)(n c:Nat)(w:World):(Instr.buildSlice 165 1 #[(0,.agg (imC (m,p,.slice a n c)).toArray)]).run prog w=.ok (.slice (some ⟨w.heap.size,0,none⟩) 1 1) (w.alloc (.cells (imC (m,p,.slice a n c)).toArray 233)):=by kernel_rfl
theorem Ev(a b:Int)(w:World):(Instr.build 189 #[(0,iv a),(1,iv b)]).run prog w=.ok (.agg (pc2 (a,b)).toArray) w:=by kernel_rfl
theorem GB(a b:Int)(w:World):(Instr.build 185 #[(0,iv a),(1,iv b)]).run prog w=.ok (.agg (pc2 (a,b)).toArray) w:=by kernel_rfl
theorem Hs(a b:Int)(w:World):(Instr.buildSlice 166 1 #[(0,.agg (pc2 (a,b)).toArray)]).run prog w=.ok (.slice (some ⟨w.heap.size,0,none⟩) 1 1) (w.alloc (.cells (pc2 (a,b)).toArray 189)):=by kernel_rfl
theorem HX(a b:Int)(w:World):(Instr.buildSlice 83 1 #[(0,.agg (pc2 (a,b)).toArray)]).run prog w=.ok (.slice (some ⟨w.heap.size,0,none⟩) 1 1) (w.alloc (.cells (pc2 (a,b)).toArray 185)):=by kernel_rfl
structure HS (w0 w : World) (x2 rb r4 x5 : Nat) (st : St2) (r : Rc) (vs vm vi vp vt : Value) : Prop where
 res : w.heap[x2]? = some (.cells (rcs rc0 nl nl nl nl nl) 168)
 rd : RdAt w rb st.1 st.2
 rp : w.heap[r4]? = some (.cells #[pv rb] 371)
 x : RB w x5 r vs vm vi vp vt
 fm : Fm (fun _ => False) w0 w
 o1 : w0.heap.size ≤ x2
 o2 : x2 < rb
 o3 : rb < r4
 o4 : r4 < x5
 len : st.1.length ≤ 1000000
section
variable{w0 w w':World}{x2 rb r4 x5:Nat}{st:St2}{r:Rc}{vs vm vi vp vt:Value}
theorem HS.iD{S:Nat->Prop}(h:HS w0 w x2 rb r4 x5 st r vs vm vi vp vt)(hf:Fm S w w')(hS:∀y,S y->x5<y):HS w0 w' x2 rb r4 x5 st r vs vm vi vp vt:=by
 have:=h.o1;have:=h.o2;have:=h.o3;have:=h.o4;have hn:∀y,y<=x5->¬S y:=λy hy e=>by have:=hS y e;omega
 exact⟨hf.heap h.res (hn _ (by omega)),h.rd.keep hf (hn _ (by omega)),hf.heap h.rp (hn _ (by omega)),h.x.keep hf (hn _ (by omega)),Fm.own h.fm hf (λy hy=>by have:=hS y hy;omega),h.o1,h.o2,h.o3,h.o4,h.len⟩
theorem HS.A8(h:HS w0 w x2 rb r4 x5 st r vs vm vi vp vt){st':St2}(hr:RdAt w' rb st'.1 st'.2)(hf:Fm (·=rb) w w')(hl:st'.1.length<=st.1.length):HS w0 w' x2 rb r4 x5 st' r vs vm vi vp vt:=by have:=h.o1;have:=h.o2;have:=h.o3;have:=h.o4;have:=h.len;exact⟨hf.heap h.res (by omega),hr,hf.heap h.rp (by omega),h.x.keep hf (by omega),Fm.own h.fm hf (by rintro y rfl;omega),h.o1,h.o2,h.o3,h.o4,by omega⟩
theorem HS.cp(h:HS w0 w x2 rb r4 x5 st r vs vm vi vp vt):w.cell? ⟨r4,0,none⟩=some (pv rb):=by rw[ab h.rp];rfl
theorem HS.r7(h:HS w0 w x2 rb r4 x5 st r vs vm vi vp vt){most:Int}(hm:most<=9223372036854775807){k:KV}(hk:∀w',HS w0 w' x2 rb r4 x5 (rn most st).2 r vs vm vi vp vt->Fm (·=rb) w w'->k (iv (rn most st).1) w'):Cl prog 321 [pv rb,iv most] w k:=by refine(dA h.rd h.len hm).mono ?_;rintro _ w' ⟨rfl,h1,hf⟩;exact hk w' (h.A8 h1 hf (bS most st).2.2) hf
theorem HS.num(h:HS w0 w x2 rb r4 x5 st r vs vm vi vp vt){k:KV}(hk:∀w',HS w0 w' x2 rb r4 x5 (rn 4611686018427387904 st).2 r vs vm vi vp vt->Fm (·=rb) w w'->k (iv (rn 4611686018427387904 st).1) w'):ClV prog (.func (.func 320) #[] #[pv r4]) [] w k:=by refine ay (by kernel_rfl) ?_;show Cl prog 320 [pv r4] w k;refine c320 ?_;simp only[RS,h.cp];refine h.r7 (by omega) ?_;intro w' h' hf;exact hk w' h' hf
theorem HS.text(h:HS w0 w x2 rb r4 x5 st r vs vm vi vp vt){k:KV}(hk:∀w',HS w0 w' x2 rb r4 x5 (rt 512 st).2 r vs vm vi vp vt->Fm (·=rb) w w'->k (stv (rt 512 st).1) w'):Cl prog 287 [pv rb,iv 512] w k:=by refine(fX h.rd h.len (by omega)).mono ?_;rintro _ w' ⟨rfl,h1,hf⟩;exact hk w' (h.A8 h1 hf (pQ (by omega) st).2) hf
theorem HS.list(h:HS w0 w x2 rb r4 x5 st r vs vm vi vp vt){k:KV}(hk:∀v w',HS w0 w' x2 rb r4 x5 (rl 255 st).2 r vs vm vi vp vt->w'.ownsRow w.heap.size 3 1 v (rl 255 st).1.length ((rl 255 st).1.map iv)->Fm (·=rb) w w'->k v w'):Cl prog 322 [pv rb,iv 255] w k:=by refine(uJ h.rd h.len).mono ?_;rintro v w' ⟨ho,h1,hf⟩;exact hk v w' (h.A8 h1 hf (yA (by omega) st).2.2) ho hf
theorem HS.put(h:HS w0 w x2 rb r4 x5 st r vs vm vi vp vt){j:Nat}{u:Value}{r':Rc}{vs' vm' vi' vp' vt':Value}(hj:j<16)(hu:u.oneCell'=true)(e:(rcs r vs vm vi vp vt).setIfInBounds j u=rcs r' vs' vm' vi' vp' vt'){k:KV}
  (hk:∀w',HS w0 w' x2 rb r4 x5 st r' vs' vm' vi' vp' vt'->Fm (·=x5) w w'->k undef w'):St 1 w (.pointer (some ⟨x5,j,none⟩)) u k:=by
 have:=h.o1;have:=h.o2;have:=h.o3;have:=h.o4;refine au h.x.h (by show j<16;exact hj) hu ?_;intro w' hw' hs' hf';rw[e] at hw';exact hk w' ⟨hf'.heap h.res (by omega),h.rd.keep hf' (by omega),hf'.heap h.rp (by omega),⟨hw'⟩,Fm.own h.fm hf' (by rintro y rfl;omega),h.o1,h.o2,h.o3,h.o4,h.len⟩ hf'
theorem HS.ret(h:HS w0 w x2 rb r4 x5 st r vs vm vi vp vt)(hone:∀u∈(rcs r vs vm vi vp vt).toList,u.oneCell'=true)(b:Bool){k:KV}(hk:∀w',Fm (·=x2) w w'->k (.tuple #[.agg (rcs r vs vm vi vp vt),.bool b]) w'):
  St 16 w (.pointer (some ⟨x2,0,none⟩)) (.agg (rcs r vs vm vi vp vt)) λu_168 w_169=>ch (bO prog (λj=>bif Nat.beq j 2 then .pointer (some ⟨x2,0,none⟩) else bif Nat.beq j 3 then(Value.bool b) else undef) w_169 [(ResultVar.cell 2 168),(ResultVar.tmp 3)]) w_169 k:=by
 refine ao h.res rfl rfl hone ?_;intro w' hw' hs' hf';have hj':pO prog (λj=>bif Nat.beq j 2 then .pointer (some ⟨x2,0,none⟩) else bif Nat.beq j 3 then(Value.bool b) else undef) w' (.tmp 3)=some (.bool b):=rfl;simp only[bO,eH (f:=(λj=>bif Nat.beq j 2 then .pointer (some ⟨x2,0,none⟩) else bif Nat.beq j 3 then(Value.bool b) else undef)) (a:=2) rfl zA th hw' rfl,hj',ch,vD];exact hk w' hf'
end
structure Rows (w : World) (b : Nat) (r : Rc) (vs vm vi vp vt : Value) : Prop where
 hs : w.ownsRow b 3 1 vs r.slots.length (r.slots.map iv)
 hm : w.ownsRow b 3 1 vm r.more.length (r.more.map iv)
 hi : ∃ X : List (Int × Pg × Value), X.map (fun x => (x.1, x.2.1)) = r.imgs ∧ w.ownsRow b 233 7 vi X.length (X.flatMap imC) ∧ ∀ x ∈ X, x.2.2.oneCell' = true ∧ w.ownsRow b 9 1 x.2.2 x.2.1.items.length (x.2.1.items.map stv) ∧ PgAs w (pcs x.2.1 x.2.2) x.2.1
 hp : w.ownsRow b 189 2 vp r.pages.length (r.pages.flatMap pc2)
 ht : w.ownsRow b 185 2 vt r.txns.length (r.txns.flatMap pc2)
section
variable{w w':World}{b:Nat}{r:Rc}{vs vm vi vp vt:Value}
theorem ir{p:Pg}{v:Value}(ho:w'.ownsRow b 9 1 v p.items.length (p.items.map stv))(h:PgAs w (pcs p v) p):PgAs w' (pcs p v) p:=⟨⟨v,rfl,aB ho,CellsAt.aT ho⟩,h.small,h.ins⟩
theorem Rows.keep{S:Nat->Prop}(h:Rows w b r vs vm vi vp vt)(hf:Fm S w w')(hS:∀y,S y->y<b):Rows w' b r vs vm vi vp vt:=by
 have hn:∀k,b<=k->¬S k:=λk hk e=>by have:=hS k e;omega
 obtain⟨X,h1,h2,h3⟩:=h.hi;exact⟨ah h.hs hf (λk hk _ _=>hn k hk),ah h.hm hf (λk hk _ _=>hn k hk),⟨X,h1,ah h2 hf (λk hk _ _=>hn k hk),λx hx=>by obtain⟨q1,q2,q3⟩:=h3 x hx;have q4:=ah q2 hf (λk hk _ _=>hn k hk);exact⟨q1,q4,ir q4 q3⟩⟩,ah h.hp hf (λk hk _ _=>hn k hk),ah h.ht hf (λk hk _ _=>hn k hk)⟩
theorem Rows.one(h:Rows w b r vs vm vi vp vt):∀u∈(rcs r vs vm vi vp vt).toList,u.oneCell'=true:=by obtain⟨X,h1,h2,h3⟩:=h.hi;exact kY (aB h.hs) (aB h.hm) (aB h2) (aB h.hp) (aB h.ht)
theorem Rows.A3(h:Rows w b r vs vm vi vp vt)(hb:Bnd r):RcAs w (rcs r vs vm vi vp vt) r:=by
 obtain⟨X,h1,h2,h3⟩:=h.hi;refine⟨⟨vs,vm,vi,vp,vt,rfl,⟨aB h.hs,aB h.hm,aB h2,aB h.hp,aB h.ht⟩,CellsAt.aT h.hs,CellsAt.aT h.hm,⟨X,h1,CellsAt.aT h2,λx hx=>⟨(h3 x hx).1,(h3 x hx).2.2⟩⟩,CellsAt.aT h.hp,CellsAt.aT h.ht⟩,λn hn=>?_,?_,?_,?_,hb.lsns⟩
 ·have:=hb.nums n hn;unfold okN at this;unfold In;omega
 ·have:=hb.kind;omega
 ·have:=hb.data;omega
 ·have:=hb.slots;have:=hb.more;have:=hb.imgs;have:=hb.pages;have:=hb.txns;omega
end
def Fw(a:List Int)(t:Bs)(sl mo:List Int)(im:List (Int×Pg))(pg tx:List (Int×Int))(st:St2):Option Rc:=bif decide (vy st.1 st.2=0) then some ⟨gI a 0,gI a 1,gI a 2,gI a 3,gI a 4,gI a 5,gI a 6,gI a 7,gI a 8,gI a 9,t,sl,mo,im,pg,tx⟩ else none
def Fu(a:List Int)(t:Bs)(sl mo:List Int)(im:List (Int×Pg))(pg:List (Int×Int)×St2):Option Rc:=(nN (rn 1024 pg.2).1.toNat (rn 1024 pg.2).2).bind λtx=>Fw a t sl mo im pg.1 tx.1 tx.2
def Fs(a:List Int)(t:Bs)(sl mo:List Int)(im:List (Int×Pg)×St2):Option Rc:=(nN (rn 8192 im.2).1.toNat (rn 8192 im.2).2).bind (Fu a t sl mo im.1)
theorem Dv(a:List Int)(st:St2):uY a st=(vA (rn 4 (rl 255 (rl 255 (rt 512 st).2).2).2).1.toNat (rn 4 (rl 255 (rl 255 (rt 512 st).2).2).2).2).bind (Fs a (rt 512 st).1 (rl 255 (rt 512 st).2).1 (rl 255 (rl 255 (rt 512 st).2).2).1):=rfl
theorem sS{s:Bs}{x:Rc}(h:cA s=some x):Bnd x:=by
 unfold cA at h;refine Dw h (λi hi h3=>?_) ?_
 ·simp only[ten];have q:∀st,okN (rn 4611686018427387904 st).1:=λst=>⟨(bS _ st).1,by have:=(bS 4611686018427387904 st).2.1;omega⟩;have:i=0\/i=1\/i=2\/i=4\/i=5\/i=6\/i=7\/i=8\/i=9:=by omega
  rcases this with rfl|rfl|rfl|rfl|rfl|rfl|rfl|rfl|rfl<;>exact q _
 ·simp only[ten];have q:∀st,0<=(rn 13 st).1/\(rn 13 st).1<=13:=λst=>⟨(bS _ st).1,by have:=(bS 13 st).2.1;omega⟩;exact q _
theorem ux(w:World)(s:Bs)(hs:s.length<=1000000):Cl prog 257 [stv s] w λv w'=>∃cs ok,v=.tuple #[.agg cs,.bool ok]/\cs.size=16/\(∀u∈cs.toList,u.oneCell'=true)/\(ok=false->cA s=none)/\(ok=true->∃x vs vm vi vp vt,cA s=some x/\cs=rcs x vs vm vi vp vt/\Rows w' w.heap.size x vs vm vi vp vt)/\Fm (λ_=>False) w w':=by
 refine c257 ?_;refine ae ?_;intro x2 w1 hx2 hs1 hw1 hf1;refine(fM w1 s).mono ?_;rintro _ w2 ⟨rb,rfl,hrb,hrd,hf2⟩;have hz2:=hf2.size;have hrl:=hrd.lt;refine ae ?_;intro r4 w3 hr4 hs3 hw3 hf3;refine au hw3 (by show 0<1;decide) rfl ?_;intro w4 hw4 hs4 hf4;refine ae ?_;intro x5 w5 hx5 hs5 hw5 hf5;have hf35:Fm (λ_=>False) w2 w5:=Fmf (Fm.own hf3 hf4 (by rintro y rfl;omega)) hf5;have h0:HS w w5 x2 rb r4 x5 (s,0) rc0 nl nl nl nl nl:=⟨(Fmf hf2 hf35).heap hw1 id,hrd.keep hf35 id,hf5.heap hw4 id,⟨hw5⟩,Fmf hf1 (Fmf hf2 hf35),by omega,by omega,by omega,by omega,hs⟩;have hr0:Rows w5 (x5+1) rc0 nl nl nl nl nl:=⟨World.ownsRow_nil _ _ _ _,World.ownsRow_nil _ _ _ _,⟨[],rfl,World.ownsRow_nil _ _ _ _,by simp⟩,World.ownsRow_nil _ _ _ _,World.ownsRow_nil _ _ _ _⟩;have hx5l:=h0.x.lt;clear hw1 hrd hw3 hw4 hw5 hr0;refine h0.num ?_;intro w6 h6a hq6;have i0:=bS 4611686018427387904 (s,0);generalize e0:rn 4611686018427387904 (s,0)=a0 at h6a i0 ⊢;refine h6a.num ?_;intro w7 h7a hq7;have i1:=bS 4611686018427387904 a0.2;generalize e1:rn 4611686018427387904 a0.2=a1 at h7a i1 ⊢;refine h7a.num ?_;intro w8 h8a hq8;have i2:=bS 4611686018427387904 a1.2;generalize e2:rn 4611686018427387904 a1.2=a2 at h8a i2 ⊢
 try simp only[RS]
 refine h8a.put (j:=0) (r':=⟨a0.1,0,0,0,0,0,0,0,0,0,[],[],[],[],[],[]⟩) (vs':=nl) (vm':=nl) (vi':=nl) (vp':=nl) (vt':=nl) (by omega) rfl rfl ?_;intro w9 h9a hq9
 try simp only[RS]
 refine h9a.put (j:=1) (r':=⟨a0.1,a1.1,0,0,0,0,0,0,0,0,[],[],[],[],[],[]⟩) (vs':=nl) (vm':=nl) (vi':=nl) (vp':=nl) (vt':=nl) (by omega) rfl rfl ?_;intro w10 h10a hq10
 try simp only[RS]
 refine h10a.put (j:=2) (r':=⟨a0.1,a1.1,a2.1,0,0,0,0,0,0,0,[],[],[],[],[],[]⟩) (vs':=nl) (vm':=nl) (vi':=nl) (vp':=nl) (vt':=nl) (by omega) rfl rfl ?_;intro w11 h11a hq11;simp only[RS,h11a.cp];refine h11a.r7 (by omega) ?_;intro w12 h12a hq12;have i3:=bS 13 a2.2;generalize e3:rn 13 a2.2=a3 at h12a i3 ⊢;have ek:cvI .u8 (iv a3.1)=some (.int .u8 a3.1):=by show some (Value.int .u8 (IntKind.u8.wrap a3.1))=_;obtain⟨q,hq⟩:=Int.eq_ofNat_of_zero_le i3.1;have:=i3.2.1;rw[hq,eK,Nat.mod_eq_of_lt (by omega)]
 simp only[RS,ek]
 try simp only[RS]
 refine h12a.put (j:=3) (r':=⟨a0.1,a1.1,a2.1,a3.1,0,0,0,0,0,0,[],[],[],[],[],[]⟩) (vs':=nl) (vm':=nl) (vi':=nl) (vp':=nl) (vt':=nl) (by omega) rfl rfl ?_;intro w13 h13a hq13;refine h13a.num ?_;intro w14 h14a hq14;have i4:=bS 4611686018427387904 a3.2;generalize e4:rn 4611686018427387904 a3.2=a4 at h14a i4 ⊢;refine h14a.num ?_;intro w15 h15a hq15;have i5:=bS 4611686018427387904 a4.2;generalize e5:rn 4611686018427387904 a4.2=a5 at h15a i5 ⊢;refine h15a.num ?_;intro w16 h16a hq16;have i6:=bS 4611686018427387904 a5.2;generalize e6:rn 4611686018427387904 a5.2=a6 at h16a i6 ⊢;refine h16a.num ?_;intro w17 h17a hq17;have i7:=bS 4611686018427387904 a6.2;generalize e7:rn 4611686018427387904 a6.2=a7 at h17a i7 ⊢;refine h17a.num ?_;intro w18 h18a hq18;have i8:=bS 4611686018427387904 a7.2;generalize e8:rn 4611686018427387904 a7.2=a8 at h18a i8 ⊢;refine h18a.num ?_;intro w19 h19a hq19;have i9:=bS 4611686018427387904 a8.2;generalize e9:rn 4611686018427387904 a8.2=a9 at h19a i9 ⊢
 try simp only[RS]
 refine h19a.put (j:=4) (r':=⟨a0.1,a1.1,a2.1,a3.1,a4.1,0,0,0,0,0,[],[],[],[],[],[]⟩) (vs':=nl) (vm':=nl) (vi':=nl) (vp':=nl) (vt':=nl) (by omega) rfl rfl ?_;intro w20 h20a hq20
 try simp only[RS]
 refine h20a.put (j:=5) (r':=⟨a0.1,a1.1,a2.1,a3.1,a4.1,a5.1,0,0,0,0,[],[],[],[],[],[]⟩) (vs':=nl) (vm':=nl) (vi':=nl) (vp':=nl) (vt':=nl) (by omega) rfl rfl ?_;intro w21 h21a hq21
 try simp only[RS]
 refine h21a.put (j:=6) (r':=⟨a0.1,a1.1,a2.1,a3.1,a4.1,a5.1,a6.1,0,0,0,[],[],[],[],[],[]⟩) (vs':=nl) (vm':=nl) (vi':=nl) (vp':=nl) (vt':=nl) (by omega) rfl rfl ?_;intro w22 h22a hq22
 try simp only[RS]
 refine h22a.put (j:=7) (r':=⟨a0.1,a1.1,a2.1,a3.1,a4.1,a5.1,a6.1,a7.1,0,0,[],[],[],[],[],[]⟩) (vs':=nl) (vm':=nl) (vi':=nl) (vp':=nl) (vt':=nl) (by omega) rfl rfl ?_;intro w23 h23a hq23
 try simp only[RS]
 refine h23a.put (j:=8) (r':=⟨a0.1,a1.1,a2.1,a3.1,a4.1,a5.1,a6.1,a7.1,a8.1,0,[],[],[],[],[],[]⟩) (vs':=nl) (vm':=nl) (vi':=nl) (vp':=nl) (vt':=nl) (by omega) rfl rfl ?_;intro w24 h24a hq24
 try simp only[RS]
 refine h24a.put (j:=9) (r':=⟨a0.1,a1.1,a2.1,a3.1,a4.1,a5.1,a6.1,a7.1,a8.1,a9.1,[],[],[],[],[],[]⟩) (vs':=nl) (vm':=nl) (vi':=nl) (vp':=nl) (vt':=nl) (by omega) rfl rfl ?_;intro w25 h25a hq25;simp only[RS,h25a.cp];refine h25a.text ?_;intro w26 h26a hq26;have it:=pQ (most:=512) (by omega) a9.2;generalize et:rt 512 a9.2=at_ at h26a it ⊢
 try simp only[RS]
 refine h26a.put (j:=10) (r':=⟨a0.1,a1.1,a2.1,a3.1,a4.1,a5.1,a6.1,a7.1,a8.1,a9.1,at_.1,[],[],[],[],[]⟩) (vs':=nl) (vm':=nl) (vi':=nl) (vp':=nl) (vt':=nl) (by omega) rfl rfl ?_;intro w27 h27a hq27;have hten:ten s=([a0.1,a1.1,a2.1,a3.1,a4.1,a5.1,a6.1,a7.1,a8.1,a9.1],a9.2):=by simp only[ten,e0,e1,e2,e3,e4,e5,e6,e7,e8,e9]
 have hout:cA s=uY [a0.1,a1.1,a2.1,a3.1,a4.1,a5.1,a6.1,a7.1,a8.1,a9.1] a9.2:=by unfold cA;rw[hten]
 rw[Dv,et] at hout;have hz27:x5<w27.heap.size:=h27a.x.lt;have hd27:=Fm.drew (λ_=>False) w27;have g0:=h27a.iD hd27 (λ_ e=>e.elim);refine⟨λw'=>w'.heap[r4]?=some (.cells #[pv rb] 371),g0.rp,?_⟩;simp only[RS,h27a.cp,g0.cp,true_and];refine⟨pv rb,λw9 h9=>?_,?_⟩
 ·have:w9.cell? ⟨r4,0,none⟩=some (pv rb):=by rw[ab h9];rfl
  simp only[RS,this];trivial
 have hzd:x5<w27.drew.heap.size:=hz27;generalize w27.drew=wd at hd27 g0 hzd;refine g0.list ?_;intro vs w30 g30 ho30 hq30;refine⟨g30.rp,?_⟩;have hz30:=hq30.size
 try simp only[RS]
 refine g30.list ?_;intro vm w31 g31 ho31 hq31;have isl:=yA (most:=255) (by omega) at_.2;generalize rl 255 at_.2=sl at g30 ho30 g31 ho31 hout isl ⊢;have imo:=yA (most:=255) (by omega) sl.2;generalize rl 255 sl.2=mo at g31 ho31 hout imo ⊢;have ho4:=g0.o3;have ho5:=g0.o4;have ho30':=ah ho30 hq31 (λk hk _ _ e=>by omega);refine g31.put (j:=11) (r':=⟨a0.1,a1.1,a2.1,a3.1,a4.1,a5.1,a6.1,a7.1,a8.1,a9.1,at_.1,sl.1,[],[],[],[]⟩) (vs':=vs) (vm':=nl) (vi':=nl) (vp':=nl) (vt':=nl) (by omega) (aB ho30) rfl ?_;intro w32 g32 hq32
 try simp only[RS]
 refine g32.put (j:=12) (r':=⟨a0.1,a1.1,a2.1,a3.1,a4.1,a5.1,a6.1,a7.1,a8.1,a9.1,at_.1,sl.1,mo.1,[],[],[]⟩) (vs':=vs) (vm':=vm) (vi':=nl) (vp':=nl) (vt':=nl) (by omega) (aB ho31) rfl ?_;intro w33 g33 hq33;have hrow:Rows w33 (x5+1) ⟨a0.1,a1.1,a2.1,a3.1,a4.1,a5.1,a6.1,a7.1,a8.1,a9.1,at_.1,sl.1,mo.1,[],[],[]⟩ vs vm nl nl nl:=by refine⟨aU (ah (ah ho30' hq32 (λk hk _ _ e=>by omega)) hq33 (λk hk _ _ e=>by omega)) (by omega),aU (ah (ah ho31 hq32 (λk hk _ _ e=>by omega)) hq33 (λk hk _ _ e=>by omega)) (by omega),⟨[],rfl,World.ownsRow_nil _ _ _ _,by simp⟩,World.ownsRow_nil _ _ _ _,World.ownsRow_nil _ _ _ _⟩
 simp only[RS,g33.cp];refine g33.r7 (by omega) ?_;intro w34 g34 hq34;have ini:=bS 4 mo.2;generalize rn 4 mo.2=ni at g34 hout ini ⊢;have hrow34:=hrow.keep hq34 (λy e=>by omega);obtain⟨N,hN⟩:=Int.eq_ofNat_of_zero_le ini.1;rw[hN,Int.toNat_natCast] at hout;rw[hN];have hN4:N<=4:=by have:=ini.2.1;omega
 refine⟨λvl w'=>∃(i:Nat) (L:List (Int×Pg)) (st:St2) (vi:Value),vl=[iv i]/\i<=N/\L.length=i/\HS w w' x2 rb r4 x5 st ⟨a0.1,a1.1,a2.1,a3.1,a4.1,a5.1,a6.1,a7.1,a8.1,a9.1,at_.1,sl.1,mo.1,L,[],[]⟩ vs vm vi nl nl/\Rows w' (x5+1) ⟨a0.1,a1.1,a2.1,a3.1,a4.1,a5.1,a6.1,a7.1,a8.1,a9.1,at_.1,sl.1,mo.1,L,[],[]⟩ vs vm vi nl nl/\vA N ni.2=(vA (N - i) st).map λq=>(L++q.1,q.2),λvl _=>(N - nth vl 0).toNat,⟨0,[],ni.2,nl,rfl,by omega,rfl,g34,hrow34,by rw[Nat.sub_zero];simp⟩,?_⟩;rintro _ w35 iv35 ⟨i,L,st,vi,hvl,hi,hL,g35,hr35,heq⟩;cases hvl;by_cases hlt:i<N
 ·have d1:decide ((i:Int)<(N:Int))=true:=by rw[decide_eq_true_eq];omega
  have ei:IntKind.i64.wrap ((i:Int)+1)=((i+1:Nat):Int):=by rw[af]<;>omega
  obtain⟨m,hm⟩:∃m,N - i=m+1:=⟨N - i - 1,by omega⟩;have hm1:N - (i+1)=m:=by omega
  rw[hm,vA] at heq;have hd35:=Fm.drew (λ_=>False) w35;have g36:=g35.iD hd35 (λ_ e=>e.elim);have hr36:=hr35.keep hd35 (λ_ e=>e.elim);simp only[RS,d1];refine⟨λw'=>w'.heap[r4]?=some (.cells #[pv rb] 371),g36.rp,pv rb,λw9 h9=>?_,?_⟩
  ·have:w9.cell? ⟨r4,0,none⟩=some (pv rb):=by rw[ab h9];rfl
   simp only[RS,this];trivial
  generalize w35.drew=w36 at hd35 g36 hr36;refine g36.num ?_;intro w37 g37 hq37;have hr37:=hr36.keep hq37 (λy e=>by omega);refine⟨g37.rp,?_⟩;refine g37.text ?_;intro w38 g38 hq38;have hr38:=hr37.keep hq38 (λy e=>by omega);have ip:=bS 4611686018427387904 st;generalize rn 4611686018427387904 st=pa at g37 g38 heq ip ⊢;have itt:=pQ (most:=512) (by omega) pa.2;generalize rt 512 pa.2=tt at g38 heq itt ⊢;have e5:IntKind.i64.wrap (512 - (tt.1.length:Int))=((512 - tt.1.length:Nat):Int):=by rw[af]<;>omega
  have hmk:ByteArray.mk #[0]=str [0]:=rfl;simp only[RS,aq,e5,hmk];refine(bW w38 (512 - tt.1.length) (by omega)).mono ?_;rintro _ w39 ⟨rfl,hq39⟩;have g39:=g38.iD hq39 (λ_ e=>e.elim);have hr39:=hr38.keep hq39 (λ_ e=>e.elim);rw[mI (by rw[cu];omega)]
  try simp only[RS]
  have hpad:tt.1++aH (512 - tt.1.length)=nH tt.1:=rfl;have hpl:(nH tt.1).length=512:=by unfold nH;rw[List.length_append,cu];omega
  rw[hpad];refine(kg w39 (nH tt.1) (by omega)).mono ?_;rintro _ w40 ⟨pc,rfl,hO40,hq40⟩;have g40:=g39.iD hq40 (λ_ e=>e.elim);have hr40:=hr39.keep hq40 (λ_ e=>e.elim);have hA40:=hO40.as;have hz40:=hq40.size;have hx39:=g39.x.lt;simp only[RS];refine ae ?_;intro x9 w41 hx9 hs41 hw41 hf41;refine ao hw41 rfl hA40.size hA40.one ?_;intro w42 hw42 hs42 hf42;have hf4042:Fm (λ_=>False) w40 w42:=Fm.own hf41 hf42 (by rintro y rfl;omega);have g42:=g40.iD hf4042 (λ_ e=>e.elim);have hr42:=hr40.keep hf4042 (λ_ e=>e.elim);have hO42:=hO40.keep hf4042;have bad:(decide ((dK (nH tt.1)).2=0)&&decide (tt.2.2=0))=false->cA s=none:=λhb=>by rw[hout,heq,hb];rfl
  have early:∀w',HS w w' x2 rb r4 x5 tt.2 ⟨a0.1,a1.1,a2.1,a3.1,a4.1,a5.1,a6.1,a7.1,a8.1,a9.1,at_.1,sl.1,mo.1,L,[],[]⟩ vs vm vi nl nl->Rows w' (x5+1) ⟨a0.1,a1.1,a2.1,a3.1,a4.1,a5.1,a6.1,a7.1,a8.1,a9.1,at_.1,sl.1,mo.1,L,[],[]⟩ vs vm vi nl nl->cA s=none->Pu (aM w' ⟨x5,0,none⟩ 16) (λt79_166=>
    St 16 w' (.pointer (some ⟨x2,0,none⟩)) t79_166 λu_168 w_169=>
    ch (bO prog (λj=>bif Nat.beq j 2 then .pointer (some ⟨x2,0,none⟩) else bif Nat.beq j 3 then(Value.bool false) else undef) w_169 [(ResultVar.cell 2 168),(ResultVar.tmp 3)]) w_169 (λv w'=>∃cs ok,v=.tuple #[.agg cs,.bool ok]/\cs.size=16/\(∀u∈cs.toList,u.oneCell'=true)/\(ok=false->cA s=none)/\(ok=true->∃x vs vm vi vp vt,cA s=some x/\cs=rcs x vs vm vi vp vt/\Rows w' w.heap.size x vs vm vi vp vt)/\Fm (λ_=>False) w w')):=by
   intro w' gg rr hno;simp only[RS,gg.x.all];refine gg.ret rr.one false ?_;intro w'' hf'';have:=gg.o1;exact⟨_,_,rfl,rfl,rr.one,λ_=>hno,λe=>(by cases e),Fm.own gg.fm hf'' (by rintro y rfl;omega)⟩
  simp only[RS,aG];cases hz1:decide ((dK (nH tt.1)).2=0) with
  | false=>simp only[RS];have:=early w42 g42 hr42 (bad (by rw[hz1,Bool.false_and]));exact this
  | true=>
  simp only[RS,g42.cp];refine(du g42.rd).mono ?_;rintro _ w43 ⟨rfl,rfl⟩;simp only[RS,aG];cases hz2:decide (tt.2.2=0) with
  | false=>simp only[RS];have:=early w43 g42 hr42 (bad (by rw[hz2,Bool.and_false]));exact this
  | true=>
  rw[hz1,hz2] at heq;obtain⟨pv_,rfl,hov⟩:=hO42.ex;have hps:∃a n c,pv_=.slice a n c:=by rcases hov.2 with⟨rfl,_⟩|⟨g,cap,cur,rfl,_⟩<;>exact⟨_,_,_,rfl⟩
  obtain⟨pa1,pn1,pc1,rfl⟩:=hps;simp only[RS,g42.x.c13,aa hw42 hA40.size];refine ag (GA _ _ _ _ _ _) ?_;refine ag (HW _ _ _ _ _ _) ?_;have hf44:=Fm.alloc (λ_=>False) w43 (.cells (imC (pa.1,(dK (nH tt.1)).1,.slice pa1 pn1 pc1)).toArray 233);have hn44:=aA w43 (.cells (imC (pa.1,(dK (nH tt.1)).1,.slice pa1 pn1 pc1)).toArray 233);have g44:=g42.iD hf44 (λ_ e=>e.elim);have hr44:=hr42.keep hf44 (λ_ e=>e.elim);have hO44:=ah hov hf44 (λ_ _ _ _ e=>e);have hz44:=hf44.size;generalize w43.alloc (.cells (imC (pa.1,(dK (nH tt.1)).1,.slice pa1 pn1 pc1)).toArray 233)=w44 at hf44 hn44 g44 hr44 hO44 hz44;have hx44:=g44.x.lt;obtain⟨X,hX1,hX2,hX3⟩:=hr44.hi;have hXl:X.length=i:=by have:=congrArg List.length hX1;rw[List.length_map] at this;rw[this];exact hL
  obtain⟨vi',w45,hr45,ho45,_,hf45⟩:=mY HH (by omega) hX2 (cs:=imC (pa.1,(dK (nH tt.1)).1,.slice pa1 pn1 pc1)) hn44 rfl (by intro q hq;simp[imC,pcs] at hq;rcases hq with rfl|rfl|rfl|rfl|rfl|rfl|rfl<;>rfl) (by omega) (by unfold maxLen;omega) (by omega);refine ag hr45 ?_;have hlt45:=aO hX2;have g45:=g44.iD hf45 (λy hy=>by have:=hlt45 y hy;omega)
  try simp only[RS]
  refine g45.put (j:=13) (r':=⟨a0.1,a1.1,a2.1,a3.1,a4.1,a5.1,a6.1,a7.1,a8.1,a9.1,at_.1,sl.1,mo.1,(L++[(pa.1,(dK (nH tt.1)).1)]),[],[]⟩) (vs':=vs) (vm':=vm) (vi':=vi') (vp':=nl) (vt':=nl) (by omega) (aB ho45) rfl ?_;intro w46 g46 hq46;simp only[RS,ei];refine⟨⟨i+1,L++[(pa.1,(dK (nH tt.1)).1)],tt.2,vi',rfl,by omega,by rw[List.length_append,hL];rfl,g46,?_,?_⟩,by simp only[ba];omega⟩
  ·have q46:∀k,x5+1<=k->¬k=x5:=λk hk e=>by omega
   have a3:=λk hk=>cq hX2 hr44.hs (by decide) k hk;refine⟨ah (ah hr44.hs hf45 (λk _ _ hk e=>cq hX2 hr44.hs (by decide) k e hk)) hq46 (λk hk _ _=>q46 k hk),ah (ah hr44.hm hf45 (λk _ _ hk e=>cq hX2 hr44.hm (by decide) k e hk)) hq46 (λk hk _ _=>q46 k hk),⟨X++[(pa.1,(dK (nH tt.1)).1,.slice pa1 pn1 pc1)],?_,?_,?_⟩,World.ownsRow_nil _ _ _ _,World.ownsRow_nil _ _ _ _⟩
   ·rw[List.map_append,hX1];rfl
   ·rw[List.length_append,List.flatMap_append,List.flatMap_cons,List.flatMap_nil,List.append_nil];exact ah ho45 hq46 (λk hk _ _=>q46 k hk)
   ·intro x hx;rcases List.mem_append.1 hx with hx|hx
    ·obtain⟨q1,q2,q3⟩:=hX3 x hx;have q4:=ah (ah q2 hf45 (λk _ _ hk e=>cq hX2 q2 (by decide) k e hk)) hq46 (λk hk _ _=>q46 k hk);exact⟨q1,q4,ir q4 q3⟩
    ·obtain rfl:x=(pa.1,(dK (nH tt.1)).1,.slice pa1 pn1 pc1):=by simpa using hx
     have q2:=aU hO44 (show x5+1<=w39.heap.size by omega);have q4:=ah (ah q2 hf45 (λk _ _ hk e=>cq hX2 q2 (by decide) k e hk)) hq46 (λk hk _ _=>q46 k hk);exact⟨rfl,q4,ir q4 hO42.as⟩
  ·rw[heq,hm1];cases vA m tt.2 with
   | none=>rfl
   | some q=>simp
 ·have hie:i=N:=by omega
  subst hie;have d1:decide ((i:Int)<(i:Int))=false:=by simp
  rw[Nat.sub_self,vA] at heq;simp only[Option.map_some,List.append_nil] at heq;rw[heq,Option.bind_some] at hout;unfold Fs at hout;simp only at hout;simp only[RS,d1,g35.cp];refine g35.r7 (by omega) ?_;intro w60 g60 hq60;have in60:=bS 8192 st;generalize rn 8192 st=n60 at g60 hout in60 ⊢;have hr60:=hr35.keep hq60 (λy e=>by omega);obtain⟨N60,hN60⟩:=Int.eq_ofNat_of_zero_le in60.1;rw[hN60,Int.toNat_natCast] at hout;rw[hN60];have hNl60:N60<=8192:=by have:=in60.2.1;omega
  refine⟨λvl w'=>∃(i:Nat) (P:List (Int×Int)) (st:St2) (vx:Value),vl=[iv i]/\i<=N60/\P.length=i/\HS w w' x2 rb r4 x5 st ⟨a0.1,a1.1,a2.1,a3.1,a4.1,a5.1,a6.1,a7.1,a8.1,a9.1,at_.1,sl.1,mo.1,L,P,[]⟩ vs vm vi vx nl/\Rows w' (x5+1) ⟨a0.1,a1.1,a2.1,a3.1,a4.1,a5.1,a6.1,a7.1,a8.1,a9.1,at_.1,sl.1,mo.1,L,P,[]⟩ vs vm vi vx nl/\nN N60 n60.2=(nN (N60 - i) st).map λq=>(P++q.1,q.2),λvl _=>(N60 - nth vl 0).toNat,⟨0,[],n60.2,nl,rfl,by omega,rfl,g60,hr60,by rw[Nat.sub_zero];simp⟩,?_⟩;rintro _ w61 iv61 ⟨j,PG1,st61,vx61,hvl,hj,hP,g61,hr61,heq61⟩;cases hvl;by_cases hlt:j<N60
  ·have d2:decide ((j:Int)<(N60:Int))=true:=by rw[decide_eq_true_eq];omega
   have ei:IntKind.i64.wrap ((j:Int)+1)=((j+1:Nat):Int):=by rw[af]<;>omega
   obtain⟨m,hm⟩:∃m,N60 - j=m+1:=⟨N60 - j - 1,by omega⟩;have hm1:N60 - (j+1)=m:=by omega
   rw[hm,nN] at heq61;simp only[RS,d2,g61.cp];refine(du g61.rd).mono ?_;rintro _ w50 ⟨rfl,rfl⟩;simp only[RS,aG];cases hz3:decide (st61.2=0) with
   | false=>
    rw[hz3,cond_false] at heq61;have hno:cA s=none:=by rw[hout,heq61];rfl
    simp only[RS,g61.x.all];refine g61.ret hr61.one false ?_;intro w'' hf'';have:=g61.o1;exact⟨_,_,rfl,rfl,hr61.one,λ_=>hno,λe=>(by cases e),Fm.own g61.fm hf'' (by rintro y rfl;omega)⟩
   | true=>
   rw[hz3,cond_true] at heq61;have hd50:=Fm.drew (λ_=>False) w50;have g51:=g61.iD hd50 (λ_ e=>e.elim);have hr51:=hr61.keep hd50 (λ_ e=>e.elim);simp only[RS];refine⟨λw'=>w'.cell? ⟨x5,14,none⟩=some vx61,g51.x.c14,?_⟩
   try simp only[RS]
   refine⟨vx61,λw9 h9=>?_,?_⟩
   ·simp only[RS,h9];trivial
   generalize w50.drew=w51 at hd50 g51 hr51;refine g51.num ?_;intro w52 g52 hq52;have hr52:=hr51.keep hq52 (λy e=>by omega);refine⟨g52.x.c14,?_⟩;refine g52.num ?_;intro w53 g53 hq53;have hr53:=hr52.keep hq53 (λy e=>by omega);refine⟨g53.x.c14,?_⟩;generalize rn 4611686018427387904 st61=pa at g52 g53 heq61 ⊢;generalize rn 4611686018427387904 pa.2=pb at g53 heq61 ⊢;refine ag (Ev _ _ _) ⟨rfl,?_⟩;refine ag (Hs _ _ _) ?_;have hf54:=Fm.alloc (λ_=>False) w53 (.cells (pc2 (pa.1,pb.1)).toArray 189);have hn54:=aA w53 (.cells (pc2 (pa.1,pb.1)).toArray 189);have g54:=g53.iD hf54 (λ_ e=>e.elim);have hr54:=hr53.keep hf54 (λ_ e=>e.elim);generalize w53.alloc (.cells (pc2 (pa.1,pb.1)).toArray 189)=w54 at hf54 hn54 g54 hr54;refine⟨g54.x.c14,?_⟩;have hx54:=g54.x.lt;have hh54:w54.ownsRow (x5+1) 189 2 vx61 PG1.length (PG1.flatMap pc2):=hr54.hp;obtain⟨vx',w55,hr55,ho55,_,hf55⟩:=mY Ho (by omega) hh54 (cs:=pc2 (pa.1,pb.1)) hn54 rfl (by intro q hq;simp[pc2] at hq;rcases hq with rfl|rfl<;>rfl) (by omega) (by unfold maxLen;omega) (by omega);refine ag hr55 ?_;have hlt55:=aO hr54.hp;have g55:=g54.iD hf55 (λy hy=>by have:=hlt55 y hy;omega)
   try simp only[RS]
   refine g55.put (j:=14) (r':=⟨a0.1,a1.1,a2.1,a3.1,a4.1,a5.1,a6.1,a7.1,a8.1,a9.1,at_.1,sl.1,mo.1,L,(PG1++[(pa.1,pb.1)]),[]⟩) (vs':=vs) (vm':=vm) (vi':=vi) (vp':=vx') (vt':=nl) (by omega) (aB ho55) rfl ?_;intro w56 g56 hq56;simp only[RS,ei];refine⟨⟨j+1,PG1++[(pa.1,pb.1)],pb.2,vx',rfl,by omega,by rw[List.length_append,hP];rfl,g56,?_,?_⟩,by simp only[ba];omega⟩
   ·have q56:∀k,x5+1<=k->¬k=x5:=λk hk e=>by omega
    have hrow56:=ho55;have kk:∀{b1:Nat} {e1:TypeId} {s1:Nat} {v1:Value} {n1:Nat} {y1:List Value},w54.ownsRow (x5+1) e1 s1 v1 n1 y1->189≠e1->w56.ownsRow (x5+1) e1 s1 v1 n1 y1:=λhh he=>ah (ah hh hf55 (λk _ _ hk e=>cq hr54.hp hh he k e hk)) hq56 (λk hk _ _=>q56 k hk);obtain⟨X,hX1,hX2,hX3⟩:=hr54.hi;refine⟨kk (b1:=0) hr54.hs (by decide),kk (b1:=0) hr54.hm (by decide),⟨X,hX1,kk (b1:=0) hX2 (by decide),λx hx=>?_⟩,by show w56.ownsRow _ _ _ _ (PG1++[(pa.1,pb.1)]).length _;rw[List.length_append,List.flatMap_append,List.flatMap_cons,List.flatMap_nil,List.append_nil];exact ah ho55 hq56 (λk hk _ _=>q56 k hk),World.ownsRow_nil _ _ _ _⟩;obtain⟨q1,q2,q3⟩:=hX3 x hx;have q4:=kk (b1:=0) q2 (by decide);exact⟨q1,q4,ir q4 q3⟩
   ·rw[heq61,hm1];cases nN m pb.2 with
    | none=>rfl
    | some q=>simp
  have hje:j=N60:=by omega
  subst hje;have d61:decide ((j:Int)<(j:Int))=false:=by simp
  rw[Nat.sub_self,nN] at heq61;simp only[Option.map_some,List.append_nil] at heq61;rw[heq61,Option.bind_some] at hout;unfold Fu at hout;simp only at hout;simp only[RS,d61,g61.cp];refine g61.r7 (by omega) ?_;intro w70 g70 hq70;have in70:=bS 1024 st61;generalize rn 1024 st61=n70 at g70 hout in70 ⊢;have hr70:=hr61.keep hq70 (λy e=>by omega);obtain⟨N70,hN70⟩:=Int.eq_ofNat_of_zero_le in70.1;rw[hN70,Int.toNat_natCast] at hout;rw[hN70];have hNl70:N70<=1024:=by have:=in70.2.1;omega
  refine⟨λvl w'=>∃(i:Nat) (P:List (Int×Int)) (st:St2) (vx:Value),vl=[iv i]/\i<=N70/\P.length=i/\HS w w' x2 rb r4 x5 st ⟨a0.1,a1.1,a2.1,a3.1,a4.1,a5.1,a6.1,a7.1,a8.1,a9.1,at_.1,sl.1,mo.1,L,PG1,P⟩ vs vm vi vx61 vx/\Rows w' (x5+1) ⟨a0.1,a1.1,a2.1,a3.1,a4.1,a5.1,a6.1,a7.1,a8.1,a9.1,at_.1,sl.1,mo.1,L,PG1,P⟩ vs vm vi vx61 vx/\nN N70 n70.2=(nN (N70 - i) st).map λq=>(P++q.1,q.2),λvl _=>(N70 - nth vl 0).toNat,⟨0,[],n70.2,nl,rfl,by omega,rfl,g70,hr70,by rw[Nat.sub_zero];simp⟩,?_⟩;rintro _ w71 iv71 ⟨j,TX1,st71,vx71,hvl,hj,hP,g71,hr71,heq71⟩;cases hvl;by_cases hlt:j<N70
  ·have d2:decide ((j:Int)<(N70:Int))=true:=by rw[decide_eq_true_eq];omega
   have ei:IntKind.i64.wrap ((j:Int)+1)=((j+1:Nat):Int):=by rw[af]<;>omega
   obtain⟨m,hm⟩:∃m,N70 - j=m+1:=⟨N70 - j - 1,by omega⟩;have hm1:N70 - (j+1)=m:=by omega
   rw[hm,nN] at heq71;simp only[RS,d2,g71.cp];refine(du g71.rd).mono ?_;rintro _ w50 ⟨rfl,rfl⟩;simp only[RS,aG];cases hz3:decide (st71.2=0) with
   | false=>
    rw[hz3,cond_false] at heq71;have hno:cA s=none:=by rw[hout,heq71];rfl
    simp only[RS,g71.x.all];refine g71.ret hr71.one false ?_;intro w'' hf'';have:=g71.o1;exact⟨_,_,rfl,rfl,hr71.one,λ_=>hno,λe=>(by cases e),Fm.own g71.fm hf'' (by rintro y rfl;omega)⟩
   | true=>
   rw[hz3,cond_true] at heq71;have hd50:=Fm.drew (λ_=>False) w50;have g51:=g71.iD hd50 (λ_ e=>e.elim);have hr51:=hr71.keep hd50 (λ_ e=>e.elim);simp only[RS];refine⟨λw'=>w'.cell? ⟨x5,15,none⟩=some vx71,g51.x.c15,?_⟩
   try simp only[RS]
   refine⟨vx71,λw9 h9=>?_,?_⟩
   ·simp only[RS,h9];trivial
   generalize w50.drew=w51 at hd50 g51 hr51;refine g51.num ?_;intro w52 g52 hq52;have hr52:=hr51.keep hq52 (λy e=>by omega);refine⟨g52.x.c15,?_⟩;refine g52.num ?_;intro w53 g53 hq53;have hr53:=hr52.keep hq53 (λy e=>by omega);refine⟨g53.x.c15,?_⟩;generalize rn 4611686018427387904 st71=pa at g52 g53 heq71 ⊢;generalize rn 4611686018427387904 pa.2=pb at g53 heq71 ⊢;refine ag (GB _ _ _) ⟨rfl,?_⟩;refine ag (HX _ _ _) ?_;have hf54:=Fm.alloc (λ_=>False) w53 (.cells (pc2 (pa.1,pb.1)).toArray 185);have hn54:=aA w53 (.cells (pc2 (pa.1,pb.1)).toArray 185);have g54:=g53.iD hf54 (λ_ e=>e.elim);have hr54:=hr53.keep hf54 (λ_ e=>e.elim);generalize w53.alloc (.cells (pc2 (pa.1,pb.1)).toArray 185)=w54 at hf54 hn54 g54 hr54;refine⟨g54.x.c15,?_⟩;have hx54:=g54.x.lt;have hh54:w54.ownsRow (x5+1) 185 2 vx71 TX1.length (TX1.flatMap pc2):=hr54.ht;obtain⟨vx',w55,hr55,ho55,_,hf55⟩:=mY HI (by omega) hh54 (cs:=pc2 (pa.1,pb.1)) hn54 rfl (by intro q hq;simp[pc2] at hq;rcases hq with rfl|rfl<;>rfl) (by omega) (by unfold maxLen;omega) (by omega);refine ag hr55 ?_;have hlt55:=aO hr54.ht;have g55:=g54.iD hf55 (λy hy=>by have:=hlt55 y hy;omega)
   try simp only[RS]
   refine g55.put (j:=15) (r':=⟨a0.1,a1.1,a2.1,a3.1,a4.1,a5.1,a6.1,a7.1,a8.1,a9.1,at_.1,sl.1,mo.1,L,PG1,(TX1++[(pa.1,pb.1)])⟩) (vs':=vs) (vm':=vm) (vi':=vi) (vp':=vx61) (vt':=vx') (by omega) (aB ho55) rfl ?_;intro w56 g56 hq56;simp only[RS,ei];refine⟨⟨j+1,TX1++[(pa.1,pb.1)],pb.2,vx',rfl,by omega,by rw[List.length_append,hP];rfl,g56,?_,?_⟩,by simp only[ba];omega⟩
   ·have q56:∀k,x5+1<=k->¬k=x5:=λk hk e=>by omega
    have hrow56:=ho55;have kk:∀{b1:Nat} {e1:TypeId} {s1:Nat} {v1:Value} {n1:Nat} {y1:List Value},w54.ownsRow (x5+1) e1 s1 v1 n1 y1->185≠e1->w56.ownsRow (x5+1) e1 s1 v1 n1 y1:=λhh he=>ah (ah hh hf55 (λk _ _ hk e=>cq hr54.ht hh he k e hk)) hq56 (λk hk _ _=>q56 k hk);obtain⟨X,hX1,hX2,hX3⟩:=hr54.hi;refine⟨kk (b1:=0) hr54.hs (by decide),kk (b1:=0) hr54.hm (by decide),⟨X,hX1,kk (b1:=0) hX2 (by decide),λx hx=>?_⟩,kk (b1:=0) hr54.hp (by decide),by show w56.ownsRow _ _ _ _ (TX1++[(pa.1,pb.1)]).length _;rw[List.length_append,List.flatMap_append,List.flatMap_cons,List.flatMap_nil,List.append_nil];exact ah ho55 hq56 (λk hk _ _=>q56 k hk)⟩;obtain⟨q1,q2,q3⟩:=hX3 x hx;have q4:=kk (b1:=0) q2 (by decide);exact⟨q1,q4,ir q4 q3⟩
   ·rw[heq71,hm1];cases nN m pb.2 with
    | none=>rfl
    | some q=>simp
  have hje:j=N70:=by omega
  subst hje;have d71:decide ((j:Int)<(j:Int))=false:=by simp
  rw[Nat.sub_self,nN] at heq71;simp only[Option.map_some,List.append_nil] at heq71;rw[heq71,Option.bind_some] at hout;unfold Fw at hout;simp only at hout;have hd71:=Fm.drew (λ_=>False) w71;have g72:=g71.iD hd71 (λ_ e=>e.elim);have hr72:=hr71.keep hd71 (λ_ e=>e.elim);simp only[RS,d71];refine⟨λw'=>RB w' x5 ⟨a0.1,a1.1,a2.1,a3.1,a4.1,a5.1,a6.1,a7.1,a8.1,a9.1,at_.1,sl.1,mo.1,L,PG1,TX1⟩ vs vm vi vx61 vx71,g72.x,.agg (rcs ⟨a0.1,a1.1,a2.1,a3.1,a4.1,a5.1,a6.1,a7.1,a8.1,a9.1,at_.1,sl.1,mo.1,L,PG1,TX1⟩ vs vm vi vx61 vx71),λw9 h9=>?_,?_⟩
  ·simp only[RS,h9.all];trivial
  simp only[RS,g71.cp,g72.cp,true_and];generalize w71.drew=w72 at hd71 g72 hr72;refine(gP g72.rd).mono ?_;rintro _ w73 ⟨rfl,rfl⟩;refine⟨g72.x,?_⟩;simp only[RS,aV];refine g72.ret hr72.one _ ?_;intro w74 hf74;have ho1:=g72.o1;have ho2:=g72.o2;have ho3:=g72.o3;refine⟨_,_,rfl,rfl,hr72.one,λe=>?_,λe=>?_,Fm.own g72.fm hf74 (by rintro y rfl;omega)⟩
  ·rw[hout,e];rfl
  ·rw[e,cond_true] at hout;have hr74:=hr72.keep hf74 (λy e=>by omega);have b74:∀{e1:TypeId} {s1:Nat} {v1:Value} {n1:Nat} {y1:List Value},w74.ownsRow (x5+1) e1 s1 v1 n1 y1->w74.ownsRow w.heap.size e1 s1 v1 n1 y1:=λhh=>aU hh (by have:=g72.o4;omega);obtain⟨X,hX1,hX2,hX3⟩:=hr74.hi;exact⟨_,_,_,_,_,_,hout,rfl,b74 hr74.hs,b74 hr74.hm,⟨X,hX1,b74 hX2,λx hx=>⟨(hX3 x hx).1,b74 (hX3 x hx).2.1,(hX3 x hx).2.2⟩⟩,b74 hr74.hp,b74 hr74.ht⟩
def RdOk(w:World)(b:Nat)(cs:Array Value):Option Rc->Prop
 | none=>cs=rcs rc0 nl nl nl nl nl
 | some x=>∃vs vm vi vp vt,cs=rcs x vs vm vi vp vt/\Rows w b x vs vm vi vp vt/\Bnd x
theorem Hj(w:World)(b:Nat):Rows w b rc0 nl nl nl nl nl:=⟨World.ownsRow_nil _ _ _ _,World.ownsRow_nil _ _ _ _,⟨[],rfl,World.ownsRow_nil _ _ _ _,by simp⟩,World.ownsRow_nil _ _ _ _,World.ownsRow_nil _ _ _ _⟩
theorem HU:Bnd rc0:=⟨by intro n hn;simp[rNums,rc0,prs] at hn;subst hn;unfold okN;omega,by simp[rc0],by simp[rc0],by simp[rc0],by simp[rc0],by simp[rc0],by simp[rc0],by simp[rc0],by simp[rc0]⟩
theorem RdOk.as{w:World}{b:Nat}{cs:Array Value}{o:Option Rc}(h:RdOk w b cs o):RcAs w cs (o.getD rc0):=by
 cases o with
 | none=>have h:cs=rcs rc0 nl nl nl nl nl:=h;subst h;exact(Hj w b).A3 HU
 | some x=>obtain⟨vs,vm,vi,vp,vt,rfl,h1,h2⟩:=h;exact h1.A3 h2
theorem Fk{w:World}{g:Nat}{cs:Array Value}{n e:Value}(h:w.heap[g]?=some (.cells cs 168))(hn:cs.size=16)(k:KV)(hk:k (.tuple #[.agg cs,n,e]) w):
  ch (bO prog (λj=>bif Nat.beq j 2 then .pointer (some ⟨g,0,none⟩) else bif Nat.beq j 3 then n else bif Nat.beq j 4 then e else undef) w [(ResultVar.cell 2 168),(ResultVar.tmp 3),(ResultVar.tmp 4)]) w k:=by
 have h3:pO prog (λj=>bif Nat.beq j 2 then .pointer (some ⟨g,0,none⟩) else bif Nat.beq j 3 then n else bif Nat.beq j 4 then e else undef) w (.tmp 3)=some n:=rfl;have h4:pO prog (λj=>bif Nat.beq j 2 then .pointer (some ⟨g,0,none⟩) else bif Nat.beq j 3 then n else bif Nat.beq j 4 then e else undef) w (.tmp 4)=some e:=rfl;simp only[bO,eH (f:=(λj=>bif Nat.beq j 2 then .pointer (some ⟨g,0,none⟩) else bif Nat.beq j 3 then n else bif Nat.beq j 4 then e else undef)) (a:=2) rfl zA th h hn,h3,h4,ch,vD];exact hk
theorem pJ(w:World)(d:Bs)(hd:d.length<=1000000000000000):Cl prog 169 [stv d] w λv w'=>∃cs,v=.tuple #[.agg cs,iv (gj d).2.1,iv (gj d).2.2]/\RdOk w' w.heap.size cs (gj d).1/\Fm (λ_=>False) w w':=by
 refine c169 ?_;refine ae ?_;intro x2 w1 hx2 hs1 hw1 hf1;have hw1':w1.heap[x2]?=some (.cells (rcs rc0 nl nl nl nl nl) 168):=hw1;clear hw1;have one0:∀u∈(rcs rc0 nl nl nl nl nl).toList,u.oneCell'=true:=kY rfl rfl rfl rfl rfl;have bad:∀(w':World) (e:Int),w'.heap[x2]?=some (.cells (rcs rc0 nl nl nl nl nl) 168)->Fm (λ_=>False) w w'->gj d=(none,0,e) ->
   RunS prog (Instr.build 168 #[]) w' (λt14_5 w_6=>
   St 16 w_6 (pv x2) t14_5 λu_7 w_8=>
   ch (bO prog (λj=>bif Nat.beq j 2 then pv x2 else bif Nat.beq j 3 then(Value.int .i64 0) else bif Nat.beq j 4 then(Value.int .i64 e) else undef) w_8 [(ResultVar.cell 2 168),(ResultVar.tmp 3),(ResultVar.tmp 4)]) w_8 (λv w'=>∃cs,v=.tuple #[.agg cs,iv (gj d).2.1,iv (gj d).2.2]/\RdOk w' w.heap.size cs (gj d).1/\Fm (λ_=>False) w w')):=by
  intro w' e hw' hF hr;refine ag (Bo _) ?_;refine ao hw' rfl rfl one0 ?_;intro w2 hw2 hs2 hf2;refine Fk hw2 rfl _ ⟨_,by rw[hr];rfl,by rw[hr];rfl,Fm.own hF hf2 (by rintro y rfl;omega)⟩
 have hb:gj d=(bif decide (d.length<8) then(none,0,40)
  else bif decide (ofN (d.take 4)=0)||decide (65535<ofN (d.take 4)) then(none,0,41)
  else bif decide (d.length<8+ofN (d.take 4)) then(none,0,40)
  else bif !decide (ofN ((d.drop 4).take 4)=crc ((d.drop 8).take (ofN (d.take 4)))) then(none,0,30)
  else match cA ((d.drop 8).take (ofN (d.take 4))) with
   | none=>(none,0,41)
   | some x=>bif decide ((rCheck x).2=0)&&decide ((rCheck x).1=(d.drop 8).take (ofN (d.take 4))) then(some x,8+ofN (d.take 4),0) else(none,0,41):Option Rc×Nat×Int):=rfl
 have d8:decide ((d.length:Int)<8)=decide (d.length<8):=by rw[decide_eq_decide];omega
 simp only[RS,aq,d8];cases h1:decide (d.length<8) with
 | true=>simp only[RS];exact bad w1 40 hw1' hf1 (by rw[hb,h1];rfl)
 | false=>
 have h8:8<=d.length:=by rw[decide_eq_false_iff_not] at h1;omega
 have s1:=gn (l:=d) (i:=4) (by omega) .i64;have s1':slS (stv d) none (some (Value.int .i64 4))=some (stv (d.take 4)):=s1;simp only[RS,s1'];refine(cZ w1 (d.take 4) (by rw[List.length_take];omega)).mono ?_;rintro _ w2 ⟨rfl,rfl⟩;have hn32:ofN (d.take 4)<4294967296:=by have:=px 4 (d.take 4) (by rw[List.length_take];omega);rw[dY (by rw[List.length_take];omega)];omega
 rw[h1,cond_false] at hb;generalize hn:ofN (d.take 4)=n at hb hn32 ⊢;have e0:((n:Int) == 0)=decide (n=0):=by rw[aV,decide_eq_decide];omega
 have e1:decide ((65535:Int)<(n:Int))=decide (65535<n):=by rw[decide_eq_decide];omega
 simp only[RS,e0];cases h2:decide (n=0) with
 | true=>simp only[RS];exact bad w2 41 hw1' hf1 (by rw[hb,h2];rfl)
 | false=>
 simp only[RS,e1];cases h3:decide (65535<n) with
 | true=>simp only[RS];exact bad w2 41 hw1' hf1 (by rw[hb,h2,h3];rfl)
 | false=>
 rw[h2,h3,Bool.or_false,cond_false] at hb;rw[decide_eq_false_iff_not] at h2 h3;have e2:IntKind.i64.wrap (8+(n:Int))=((8+n:Nat):Int):=by rw[af]<;>omega
 have e3:decide ((d.length:Int)<((8+n:Nat):Int))=decide (d.length<8+n):=by rw[decide_eq_decide];omega
 simp only[RS,aq,e2,e3];cases h4:decide (d.length<8+n) with
 | true=>simp only[RS];exact bad w2 40 hw1' hf1 (by rw[hb,h4];rfl)
 | false=>
 rw[h4,cond_false] at hb;rw[decide_eq_false_iff_not] at h4;have s2:=mJ (l:=d) (i:=8) (j:=8+n) (by omega) (by omega) .i64 .i64;rw[show 8+n - 8=n by omega] at s2;have s2':slS (stv d) (some (Value.int .i64 8)) (some (iv ((8+n:Nat):Int)))=some (stv ((d.drop 8).take n)):=s2;have s3:=mJ (l:=d) (i:=4) (j:=8) (by omega) (by omega) .i64 .i64;have s3':slS (stv d) (some (Value.int .i64 4)) (some (Value.int .i64 8))=some (stv ((d.drop 4).take 4)):=s3;have hbl:((d.drop 8).take n).length=n:=by rw[List.length_take,List.length_drop];omega
 simp only[RS,e2,s2',s3'];generalize hB:(d.drop 8).take n=B at hb hbl ⊢;refine(cZ w2 ((d.drop 4).take 4) (by rw[List.length_take];omega)).mono ?_;rintro _ w3 ⟨rfl,rfl⟩;refine(jL w3 B (by omega)).mono ?_;rintro _ w4 ⟨rfl,rfl⟩;obtain⟨q1,q2⟩:=so B;have e4:decide ((ofN ((d.drop 4).take 4):Int)=(crc B:Nat))=decide (ofN ((d.drop 4).take 4)=crc B):=by rw[decide_eq_decide];omega
 simp only[RS,bR,q2,aG,e4];cases h5:decide (ofN ((d.drop 4).take 4)=crc B) with
 | false=>simp only[RS,Bool.not_false];exact bad w4 30 hw1' hf1 (by rw[hb,h5];rfl)
 | true=>
 rw[h5,Bool.not_true,cond_false] at hb;simp only[RS,Bool.not_true];refine(ux w4 B (by omega)).mono ?_;rintro _ w5 ⟨cs,ok,rfl,hsz,hone,hno,hyes,hf5⟩;have hx5:=hf5.heap hw1' id;have hF5:=Fmf hf1 hf5;have hz5:=hF5.size;simp only[RS];refine ae ?_;intro x7 w6 hx7 hs6 hw6 hf6;refine ao hw6 rfl hsz hone ?_;intro w7 hw7 hs7 hf7;have hf57:Fm (λ_=>False) w5 w7:=Fm.own hf6 hf7 (by rintro y rfl;omega);have hx7':=hf57.heap hx5 id;have hF7:=Fmf hF5 hf57;cases ok with
 | false=>simp only[RS,Bool.not_false];exact bad w7 41 hx7' hF7 (by rw[hb,hno rfl])
 | true=>
 obtain⟨x,vs,vm,vi,vp,vt,hx,rfl,hrow⟩:=hyes rfl;have hbd:=sS hx;have hr7:=hrow.keep hf57 (λ_ e=>e.elim);rw[hx] at hb;simp only at hb;simp only[RS,Bool.not_true,aa hw7 hsz];refine(jf (hr7.A3 hbd)).mono ?_;rintro _ w8 ⟨rfl,hf8⟩;have hx8:=hf8.heap hx7' id;have hq8:=hf8.heap hw7 id;have hF8:=Fmf hF7 hf8;have hr8:=hr7.keep hf8 (λ_ e=>e.elim);have hz7:=hF7.size;simp only[RS,aG];cases h6:decide ((rCheck x).2=0) with
 | false=>simp only[RS,Bool.not_false];exact bad w8 41 hx8 hF8 (by rw[hb,h6];rfl)
 | true=>
 rw[h6,Bool.true_and] at hb;simp only[RS,Bool.not_true,bn];cases h7:decide ((rCheck x).1=B) with
 | false=>simp only[RS,Bool.not_false];exact bad w8 41 hx8 hF8 (by rw[hb,h7];rfl)
 | true=>
 rw[h7,cond_true] at hb;simp only[RS,Bool.not_true,aa hq8 hsz,e2];refine ao hx8 rfl rfl hone ?_;intro w9 hw9 hs9 hf9;refine Fk hw9 rfl _ ⟨_,by rw[hb],?_,Fm.own hF8 hf9 (by rintro y rfl;omega)⟩;rw[hb];have hwsz:w.heap.size<=w4.heap.size:=hf1.size;have b9:∀{e1:TypeId} {s1:Nat} {v1:Value} {n1:Nat} {y1:List Value},w9.ownsRow w4.heap.size e1 s1 v1 n1 y1->w9.ownsRow w.heap.size e1 s1 v1 n1 y1:=λhh=>aU hh hwsz;have hr9:=hr8.keep hf9 (λy e=>by omega);obtain⟨X,hX1,hX2,hX3⟩:=hr9.hi;exact⟨vs,vm,vi,vp,vt,rfl,⟨b9 hr9.hs,b9 hr9.hm,⟨X,hX1,b9 hX2,λx hx=>⟨(hX3 x hx).1,b9 (hX3 x hx).2.1,(hX3 x hx).2.2⟩⟩,b9 hr9.hp,b9 hr9.ht⟩,hbd⟩
theorem wD(r:Rc):10<=(fu r).length:=by
 have q:∀n:Int,1<=(bG n).length:=λn=>by
  unfold bG;by_cases h:127<(max n 0).toNat
  ·rw[gX h];simp
  ·rw[dm (by omega)];simp
 have e:fu r=bG r.lsn++(bG r.prev++(bG r.next++(bG r.kind++(bG r.xid++(bG r.page++(bG r.slot++(bG r.old++(bG r.new++(bG r.redo++(iM r.data++dV r.slots++dV r.more++bG r.imgs.length++r.imgs.flatMap sI++bG r.pages.length++r.pages.flatMap prB++bG r.txns.length++r.txns.flatMap prB)))))))))):=by simp[fu,cz,iU]
 have h:=congrArg List.length e;simp only[List.length_append] at h;have:=q r.lsn;have:=q r.prev;have:=q r.next
 have:=q r.kind;have:=q r.xid;have:=q r.page;have:=q r.slot;have:=q r.old;have:=q r.new;have:=q r.redo;omega
theorem sP{n:Nat}(h:n<4294967296):ofN (beN 4 n)=n:=by rw[dY (by rw[aI];omega),iY,Nat.mod_eq_of_lt (by omega)]
theorem yo{r:Rc}(h:(rCheck r).2=0)(hl:∀m∈r.imgs,m.2.lsn<=9223372036854775807):lG r=(beN 4 (fu r).length++beN 4 (crc (fu r))++fu r,0):=by have h2:=(iw h hl).2.2.1;unfold lG;rw[h,h2];rfl
theorem AJ(r:Rc):(lG r).2=(rCheck r).2:=by
 unfold lG;cases h:decide ((rCheck r).2=0) with
 | true=>rw[decide_eq_true_eq] at h;rw[h];rfl
 | false=>rfl
theorem sr{b t:Bs}(hb:b.length<=65535):(beN 4 b.length++beN 4 (crc b)++b++t).take 4=beN 4 b.length/\((beN 4 b.length++beN 4 (crc b)++b++t).drop 4).take 4=beN 4 (crc b)/\((beN 4 b.length++beN 4 (crc b)++b++t).drop 8).take b.length=b/\(beN 4 b.length++beN 4 (crc b)++b++t).length=8+b.length+t.length:=by
 have e1:beN 4 b.length++beN 4 (crc b)++b++t=beN 4 b.length++(beN 4 (crc b)++(b++t)):=by simp
 have l1:=aI 4 b.length;have l2:=aI 4 (crc b);refine⟨by rw[e1,List.take_left' l1],by rw[e1,List.drop_left' l1,List.take_left' l2],?_,by rw[e1];simp only[List.length_append,l1,l2];omega⟩;have e2:beN 4 b.length++beN 4 (crc b)++b++t=(beN 4 b.length++beN 4 (crc b))++(b++t):=by simp
 rw[e2,List.drop_left' (by rw[List.length_append,l1,l2]),List.take_left]
theorem zZ{r:Rc}(h:(rCheck r).2=0)(hl:∀m∈r.imgs,m.2.lsn<=9223372036854775807)(t:Bs):gj ((lG r).1++t)=(some r,(lG r).1.length,0):=by
 obtain⟨hg,_,hb,hlen⟩:=iw h hl;have hne:=wD r;have ho:=xU hg;rw[yo h hl];simp only;generalize fu r=b at hlen hne ho hb;obtain⟨h1,h2,h3,h4⟩:=sr (b:=b) (t:=t) hlen;have h5:=(sr (b:=b) (t:=[]) hlen).2.2.2;rw[List.append_nil,List.length_nil,Nat.add_zero] at h5;have hcl:=Bq b;unfold gj;rw[h1,h2,h4,h5,sP (by omega),h3,sP (by omega),decide_eq_false (show ¬8+b.length+t.length<8 by omega),decide_eq_false (show ¬b.length=0 by omega),decide_eq_false (show ¬65535<b.length by omega),decide_eq_false (show ¬8+b.length+t.length<8+b.length by omega),decide_eq_true rfl,ho];simp only[cond_false,Bool.or_false,Bool.not_true];rw[h,hb,decide_eq_true rfl,decide_eq_true rfl]
 rfl
theorem wQ{d:Bs}{x:Rc}(h:(gj d).1=some x):(rCheck x).2=0/\(gj d).2.2=0/\(gj d).2.1=(lG x).1.length/\(gj d).2.1<=d.length/\d.take (gj d).2.1=(lG x).1/\Bnd x:=by
 unfold gj at h ⊢;cases h1:decide (d.length<8) with
 | true=>rw[h1] at h;cases h
 | false=>
 rw[h1,cond_false] at h;rw[decide_eq_false_iff_not] at h1;have hn:ofN (d.take 4)=ofB (d.take 4):=dY (by rw[List.length_take];omega);have hc4:ofN ((d.drop 4).take 4)=ofB ((d.drop 4).take 4):=dY (by rw[List.length_take];omega);have l4:(d.take 4).length=4:=by rw[List.length_take];omega
 have l5:((d.drop 4).take 4).length=4:=by rw[List.length_take,List.length_drop];omega
 have g1:=eY 4 (d.take 4) l4;have g2:=eY 4 ((d.drop 4).take 4) l5;rw[<- hn] at g1;rw[<- hc4] at g2;generalize ofN (d.take 4)=n at h g1 ⊢;cases h2:decide (n=0)||decide (65535<n) with
 | true=>rw[h2] at h;cases h
 | false=>
 rw[h2,cond_false] at h;cases h3:decide (d.length<8+n) with
 | true=>rw[h3] at h;cases h
 | false=>
 rw[h3,cond_false] at h;rw[decide_eq_false_iff_not] at h3;cases h4:decide (ofN ((d.drop 4).take 4)=crc ((d.drop 8).take n)) with
 | false=>rw[h4] at h;cases h
 | true=>
 rw[h4,Bool.not_true,cond_false] at h;rw[decide_eq_true_eq] at h4;have hbl:((d.drop 8).take n).length=n:=by rw[List.length_take,List.length_drop];omega
 have hcut:d.take (8+n)=d.take 4++(d.drop 4).take 4++(d.drop 8).take n:=by rw[List.take_add,show(8:Nat)=4+4 by omega,List.take_add]
 cases ho:cA ((d.drop 8).take n) with
 | none=>rw[ho] at h;cases h
 | some y=>
  rw[ho] at h;simp only at h;cases h5:decide ((rCheck y).2=0)&&decide ((rCheck y).1=(d.drop 8).take n) with
  | false=>rw[h5] at h;cases h
  | true=>
   rw[h5,cond_true] at h;cases h;rw[Bool.and_eq_true,decide_eq_true_eq,decide_eq_true_eq] at h5;have hbd:=sS ho;simp only[cond_false,Bool.not_true];simp only[h5.1,h5.2,decide_true,Bool.and_self,cond_true];have hE:(lG x).1=d.take 4++(d.drop 4).take 4++(d.drop 8).take n:=by unfold lG;rw[h5.1,decide_eq_true rfl,cond_true,h5.2,hbl,g1,<- h4,g2]
   refine⟨trivial,trivial,?_,by omega,by rw[hE,hcut],hbd⟩;rw[hE,<- hcut,List.length_take];omega
theorem Aa{d:Bs}(h:(gj d).1=none):(gj d).2.1=0/\((gj d).2.2=40\/(gj d).2.2=41\/(gj d).2.2=30):=by
 unfold gj at h ⊢;cases h1:decide (d.length<8) with
 | true=>exact⟨rfl,.inl rfl⟩
 | false=>
 rw[h1,cond_false] at h;cases h2:decide (ofN (d.take 4)=0)||decide (65535<ofN (d.take 4)) with
 | true=>exact⟨rfl,.inr (.inl rfl)⟩
 | false=>
 rw[h2,cond_false] at h;cases h3:decide (d.length<8+ofN (d.take 4)) with
 | true=>exact⟨rfl,.inl rfl⟩
 | false=>
 rw[h3,cond_false] at h;cases h4:decide (ofN ((d.drop 4).take 4)=crc ((d.drop 8).take (ofN (d.take 4)))) with
 | false=>exact⟨rfl,.inr (.inr rfl)⟩
 | true=>
 rw[h4,Bool.not_true,cond_false] at h;simp only[cond_false,Bool.not_true];cases ho:cA ((d.drop 8).take (ofN (d.take 4))) with
 | none=>exact⟨rfl,.inr (.inl rfl)⟩
 | some y=>
  rw[ho] at h;simp only at h ⊢;cases h5:decide ((rCheck y).2=0)&&decide ((rCheck y).1=(d.drop 8).take (ofN (d.take 4))) with
  | false=>exact⟨rfl,.inr (.inl rfl)⟩
  | true=>rw[h5,cond_true] at h;cases h
end Go.Proofs.YtmdmffeoehfjgaaGreatDoor
namespace Go.Al
structure Dk where
 cur : List Bs
 old : List Bs
 chg : List Bool
 armed : Int
 gone : Bool
 done : Int
namespace Dk
def zsec:Bs:=List.replicate 64 0
def mk0(n:Nat):Dk:=⟨List.replicate n zsec,List.replicate n zsec,List.replicate n false,0,false,0⟩
def isC(chg:List Bool)(i:Nat):Bool:=chg.getD i false
structure Wf (d : Dk) : Prop where
 n1 : d.cur.length ≤ 65536
 lo : d.old.length = d.cur.length
 lc : d.chg.length = d.cur.length
 s1 : ∀ x ∈ d.cur, x.length = 64
 s2 : ∀ x ∈ d.old, x.length = 64
 same : ∀ i, isC d.chg i = false → d.old[i]? = d.cur[i]?
 ar : 0 ≤ d.armed ∧ d.armed ≤ 9223372036854775807
def tick(d:Dk):Dk:=if 0<d.armed then { d with done:=IntKind.i64.wrap (d.done+1),armed:=d.armed - 1,gone:=decide (d.armed - 1=0) } else { d with done:=IntKind.i64.wrap (d.done+1) }
def put(d:Dk)(i:Nat)(x:Bs):Dk:={ d with cur:=d.cur.set i x,chg:=d.chg.set i true }
def wr:Dk->Nat->List Bs->Dk×Int
 | d,_,[]=>(d,0)
 | d,i,x::l=>let d':=(d.put i x).tick;bif d'.gone then(d',5) else wr d' (i+1) l
def chunks:Nat->Bs->List Bs
 | 0,_=>[]
 | k+1,s=>s.take 64::chunks k (s.drop 64)
def has(d:Dk)(a k:Int):Bool:=decide (0<=a/\0<=k/\a<=d.cur.length/\k<=d.cur.length - a)
def write(d:Dk)(a:Int)(s:Bs):Dk×Int:=bif d.gone then(d,5) else bif decide (s.length % 64≠0)||!(d.has a (s.length / 64:Nat)) then(d,20) else d.wr a.toNat (chunks (s.length / 64) s)
def read(d:Dk)(a k:Int):Bs×Int:=bif d.gone then([],5) else bif !(d.has a k) then([],20) else(((d.cur.drop a.toNat).take k.toNat).flatten,0)
def sync(d:Dk):Dk×Int:=bif d.gone then(d,5) else let d':=d.tick;bif d'.gone then(d',5) else({ d' with old:=d'.cur,chg:=List.replicate d'.cur.length false },0)
def pend(d:Dk):List Nat:=(List.range d.cur.length).filter (isC d.chg)
def rank(chg:List Bool)(i:Nat):Nat:=((List.range i).filter (isC chg)).length
def fold1(f:Int):Int:=if f<0 then -(f+1) else f
def fate(how:List Int)(k:Nat):Int:=match how[k]? with
 | some f=>fold1 f
 | none=>0
def kept(f:Int):Nat:=if f % 3=0 then 0 else if f % 3=1 then 64 else(f / 3 % 65).toNat
def torn(f:Int)(x y:Bs):Bs:=x.take (kept f)++y.drop (kept f)
def ES(how:List Int)(d:Dk)(i:Nat):Bs:=bif isC d.chg i then torn (fate how (rank d.chg i)) (d.cur.getD i []) (d.old.getD i []) else d.cur.getD i []
def mended(how:List Int)(d:Dk):List Bs:=(List.range d.cur.length).map (ES how d)
def crash(d:Dk)(how:List Int):Dk:={ cur:=mended how d,old:=mended how d,chg:=List.replicate d.cur.length false,armed:=0,gone:=false,done:=d.done }
theorem isC_rep(n i:Nat):isC (List.replicate n false) i=false:=by unfold isC;simp only[List.getD_eq_getElem?_getD,List.getElem?_replicate];split<;>rfl
theorem isC_set(c:List Bool)(i j:Nat)(h:i<c.length):isC (c.set i true) j=if i=j then true else isC c j:=by
 unfold isC;simp only[List.getD_eq_getElem?_getD,List.getElem?_set];split
 ·rename_i e;subst e;simp[h]
 ·rfl
theorem isC_lt{c:List Bool}{i:Nat}(h:isC c i=true):i<c.length:=by
 unfold isC at h;rcases Nat.lt_or_ge i c.length with hl|hl
 ·exact hl
 ·rw[List.getD_eq_getElem?_getD,List.getElem?_eq_none hl] at h;cases h
theorem wf_mk0{n:Nat}(h:n<=65536):(mk0 n).Wf where
 n1:=by simpa[mk0] using h
 lo:=by simp[mk0]
 lc:=by simp[mk0]
 s1:=by intro x hx;simp[mk0] at hx;rw[hx.2];rfl
 s2:=by intro x hx;simp[mk0] at hx;rw[hx.2];rfl
 same:=λi _=>rfl
 ar:=⟨by simp[mk0],by simp[mk0]⟩
theorem tick_cur(d:Dk):d.tick.cur=d.cur/\d.tick.old=d.old/\d.tick.chg=d.chg:=by unfold tick;split<;>exact⟨rfl,rfl,rfl⟩
theorem Wf.tick{d:Dk}(h:d.Wf):d.tick.Wf:=by
 obtain⟨h1,h2,h3,h4,h5,h6,h7⟩:=h;unfold Dk.tick;split
 ·exact⟨h1,h2,h3,h4,h5,h6,⟨by simp only;omega,by simp only;omega⟩⟩
 ·exact⟨h1,h2,h3,h4,h5,h6,h7⟩
theorem Wf.put{d:Dk}(h:d.Wf)(i:Nat){x:Bs}(hx:x.length=64):(d.put i x).Wf where
 n1:=by simpa[Dk.put] using h.n1
 lo:=by simpa[Dk.put] using h.lo
 lc:=by simpa[Dk.put] using h.lc
 s1:=by
  intro y hy
  rcases List.mem_or_eq_of_mem_set hy with hy|rfl
  ·exact h.s1 y hy
  ·exact hx
 s2:=h.s2
 same:=by
  intro j hj
  rcases Nat.lt_or_ge i d.chg.length with hl|hl
  ·simp only[Dk.put] at hj ⊢
   rw[isC_set _ _ _ hl] at hj
   split at hj
   ·cases hj
   ·rename_i hne
    rw[List.getElem?_set_ne hne];exact h.same j hj
  ·simp only[Dk.put] at hj ⊢
   rw[List.set_eq_of_length_le hl] at hj
   rw[List.set_eq_of_length_le (by rw[<- h.lc];exact hl)]
   exact h.same j hj
 ar:=h.ar
theorem Wf.sync{d:Dk}(h:d.Wf):d.sync.1.Wf:=by
 unfold Dk.sync;cases d.gone with
 | true=>exact h
 | false=>
  simp only[cond_false];have h1:=h.tick;cases hg:d.tick.gone with
  | true=>exact h1
  | false=>simp only[cond_false];exact⟨h1.n1,rfl,by simp,h1.s1,h1.s1,λi _=>rfl,h1.ar⟩
theorem kept_le(f:Int):kept f<=64:=by
 unfold kept;split
 ·omega
 ·split
  ·omega
  ·have:=Int.emod_lt_of_pos (f / 3) (show(0:Int)<65 by decide);have:=Int.emod_nonneg (f / 3) (show(65:Int)≠0 by decide);omega
theorem tq{f:Int}{x y:Bs}(hx:x.length=64)(hy:y.length=64):(torn f x y).length=64:=by have:=kept_le f;simp only[torn,List.length_append,List.length_take,List.length_drop];omega
theorem Wf.oR{d:Dk}(h:d.Wf){i:Nat}(hi:i<d.cur.length):(d.cur.getD i []).length=64:=by rw[List.getD_eq_getElem?_getD,List.getElem?_eq_getElem hi];exact h.s1 _ (List.getElem_mem hi)
theorem Wf.r8{d:Dk}(h:d.Wf){i:Nat}(hi:i<d.cur.length):(d.old.getD i []).length=64:=by rw[List.getD_eq_getElem?_getD,List.getElem?_eq_getElem (by rw[h.lo];exact hi)];exact h.s2 _ (List.getElem_mem _)
theorem sM{d:Dk}(h:d.Wf)(how:List Int){i:Nat}(hi:i<d.cur.length):(ES how d i).length=64:=by
 unfold ES;cases isC d.chg i with
 | true=>exact tq (h.oR hi) (h.r8 hi)
 | false=>exact h.oR hi
theorem mended_len(how:List Int)(d:Dk):(mended how d).length=d.cur.length:=by simp[mended]
theorem uj(how:List Int)(d:Dk)(i:Nat):(mended how d)[i]?=if i<d.cur.length then some (ES how d i) else none:=by
 unfold mended;rw[List.getElem?_map];split
 ·rename_i h;rw[List.getElem?_range h];rfl
 ·rename_i h;rw[List.getElem?_eq_none (by simpa using h)];rfl
theorem Wf.crash{d:Dk}(h:d.Wf)(how:List Int):(d.crash how).Wf where
 n1:=by simpa[Dk.crash,mended_len] using h.n1
 lo:=rfl
 lc:=by simp[Dk.crash,mended_len]
 s1:=by
  intro x hx
  obtain⟨i,hi,rfl⟩:=List.mem_map.1 hx
  exact sM h how (by simpa using hi)
 s2:=by
  intro x hx
  obtain⟨i,hi,rfl⟩:=List.mem_map.1 hx
  exact sM h how (by simpa using hi)
 same:=λi _=>rfl
 ar:=⟨by simp[Dk.crash],by simp[Dk.crash]⟩
theorem jG(c:List Bool):∀(n k i:Nat),((List.range n).filter (isC c))[k]?=some i↔i<n/\isC c i=true/\rank c i=k
 | 0,k,i=>by simp
 | n+1,k,i=>by
  rw[List.range_succ,List.filter_append,List.getElem?_append];have ih:=jG c n;have hl:((List.range n).filter (isC c)).length=rank c n:=rfl;by_cases hk:k<((List.range n).filter (isC c)).length
  ·rw[if_pos hk,ih];constructor
   ·rintro⟨h1,h2,h3⟩;exact⟨by omega,h2,h3⟩
   ·rintro⟨h1,h2,h3⟩;refine⟨?_,h2,h3⟩;have:i≠n:=by rintro rfl;rw[hl,h3] at hk;omega
    omega
  ·rw[if_neg hk];rw[hl] at hk ⊢;constructor
   ·intro h;rw[List.filter_cons] at h;split at h
    ·rename_i hn;rw[List.filter_nil] at h;cases hd:k - rank c n with
     | zero=>rw[hd] at h;simp at h;subst h;exact⟨by omega,hn,by omega⟩
     | succ _=>rw[hd] at h;simp at h
    ·simp at h
   ·rintro⟨h1,h2,h3⟩;have:i=n:=by
     rcases Nat.lt_or_ge i n with hlt|hge
     ·have h4:=(ih (rank c i) i).2 ⟨hlt,h2,rfl⟩;have:=(List.getElem?_eq_some_iff.1 h4).1;rw[hl] at this;omega
     ·omega
    subst this;rw[List.filter_cons,if_pos h2,h3,Nat.sub_self];rfl
theorem pend_mem{d:Dk}(h:d.Wf){i:Nat}:i∈d.pend↔isC d.chg i=true:=by unfold pend;rw[List.mem_filter,List.mem_range];exact⟨λx=>x.2,λx=>⟨by rw[<- h.lc];exact isC_lt x,x⟩⟩
theorem pend_rises(d:Dk):d.pend.Pairwise (· < ·):=by unfold pend;exact(List.pairwise_lt_range).filter _
end Dk
end Go.Al
