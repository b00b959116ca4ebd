/- Laid for one claim by slim.py out of: parts. -/
import Derived.Test.YtmdmffeoehfjgaaGreatDoorTgsA
set_option maxRecDepth 100000
set_option maxHeartbeats 0
set_option linter.unusedVariables false
set_option linter.unusedSimpArgs false
set_option linter.unusedSectionVars false
open Go.Proofs.Tryz (prog)
namespace Go.Al
open Go.RowKit (Below)
theorem BX.of{w:World}{g:Nat}{e:TypeId}{l:Bs}(h:BRow w g e l):BX w g e l:=⟨_,_,h,by rw[G0 (by rw[bU];exact D9 _)],by rw[I7,bU];exact D9 _,.inl rfl⟩
theorem BX.keep{S:Nat->Prop}{w w':World}{g:Nat}{e:TypeId}{l:Bs}(h:BX w g e l)(hf:Fm S w w')(hs:¬S g):BX w' g e l:=by obtain⟨cs,fz,h1,h2⟩:=h;exact⟨cs,fz,hf.heap h1 hs,h2⟩
theorem BX.cell{w:World}{g:Nat}{e:TypeId}{l:Bs}(h:BX w g e l){i:Nat}{b:UInt8}(hi:l[i]?=some b):w.cell? ⟨g,i,none⟩=some (.int .u8 b.toNat):=by
 obtain⟨cs,fz,h1,h2,h3,h4⟩:=h;have hlt:=(E2.1 hi).1;rw[ab h1];have:(cs.toList.take l.length)[i]?=some (.int .u8 b.toNat):=by rw[h2,vO,hi];rfl
 rw[Jz,IY hlt] at this;simpa using this
theorem BX.conv{P:Program}{t e s:TypeId}(B:ByteT P t e s){w:World}{g:Nat}{e':TypeId}{l:Bs}(h:BX w g e' l){o n:Nat}(hn:o+n<=l.length)(c:Nat):
  (convert t s (.slice (some ⟨g,o,none⟩) n c)).run P w=.ok (stv ((l.drop o).take n)) w:=by
 have hr:=run_convert_bytes_arg (P:=P) w t e B.sl B.u8 g o n c (((l.drop o).take n).map λb=>(b.toNat:Int)) (by simp;omega) (λi hi=>by have hlt:o+i<l.length:=oM;rw[h.cell (C6 hlt)];simp[List.getD,Jz,hi,List.getElem?_drop,hlt]) s B.st;rw[hr];congr 2;apply Kr;simp only[strOfNums,str,JG];congr 1
 conv=>rhs;rw[<- List.map_id ((l.drop o).take n)]
 apply Kx;intro x _;simp
theorem BX.put{w:World}{g:Nat}{e:TypeId}{l:Bs}(h:BX w g e l){i:Nat}(hi:i<l.length){b:UInt8}{k:KV}
  (hk:∀w',BX w' g e (l.set i b)->w'.heap.size=w.heap.size->Fm (·=g) w w'->k undef w'):St 1 w (.pointer (some ⟨g,i,none⟩)) (.int .u8 b.toNat) k:=by
 have hc:=h.cell (C6 hi);obtain⟨cs,fz,h1,h2,h3,h4⟩:=h;have hfz:w.frozen? ⟨g,i,none⟩=false:=by
  obtain⟨lo,hi'⟩:=fz;simp only[World.frozen?,h1];rcases h4 with h4|h4
  ·cases h4;simp
  ·have h4':l.length<=lo:=h4;have:¬lo<=i:=oM;simp[this]
 refine Bl rfl hc hfz (hk _ ⟨_,fz,ed h1 i _,?_,?_,?_⟩ (by simp[World.setCell]) (Fm.setCell w ⟨g,i,none⟩ _ rfl))
 ·rw[Jy,I3,List.take_set,h2];simp[bc,Kz]
 ·rw[I3,J1];exact h3
 ·rw[I3];exact h4
theorem tP{P:Program}{t e s:TypeId}(B:ByteT P t e s)(w:World)(l:Bs):∃cap w',(convert s t (stv l)).run P w=.ok (.slice (some ⟨w.heap.size,0,none⟩) l.length cap) w'/\BX w' w.heap.size e l/\Fm (λ_=>False) w w'/\w'.heap.size=w.heap.size+1:=by
 have hr:=run_bytes_of_string (P:=P) w s t e (str l) B.st B.sl B.u8;rw[aq] at hr;refine⟨_,_,hr,⟨_,_,ay w.drew _,?_,?_,?_⟩,(Fm.drew _ w).trans (Fm.alloc _ w.drew _) iT iT,sI⟩
 ·have:(bytesRow (str l) (grownCap w l.length 0 e)).toList=bc l++List.replicate (grownCap w l.length 0 e - l.length) (.int .u8 0):=by unfold bytesRow;rw[Array.toList_append,Array.toList_map,Array.toList_replicate,aq];rfl
  rw[this,IU (by rw[bU];exact D9 _),G0 (by rw[bU];exact D9 _)]
 ·unfold bytesRow;rw[Array.size_append,Array.size_map];have:(str l).data.size=l.length:=by simp[str]
  omega
 ·right;unfold bytesRow;simp only[Array.size_append,Array.size_map];have:(str l).data.size=l.length:=by simp[str]
  omega
theorem gr{P:Program}{t e s:TypeId}(B:ByteT P t e s){w:World}{base:Nat}{v:Value}{n:Nat}{l:Bs}(h:w.ownsRow base e 1 v n (bc l))(x:Bs)(ty:TypeId)
  (h63:n+x.length<=140737488355328) (hbase:base<=w.heap.size):
  ∃v' w',(Builtin.append_ #[t,s] ty #[v,stv x]).run P w=.ok v' w'/\w'.ownsRow base e 1 v' (n+x.length) (bc (l++x))/\Fm (λb=>v.ownBlock=some b) w w'/\(v'=.slice none 0 0↔v=.slice none 0 0/\x.length=0):=by
 obtain⟨i,h1,h2,h3,h4⟩:=B.info;obtain⟨v',w',hr,ho,hg,hn⟩:=Lib.run_append_own_string (P:=P) (w:=w) base t s ty e i B.sl B.st h1 h2 h3 h4 v n _ h (str x) (by rw[aq];unfold maxLen;omega) (by rw[aq];omega) hbase;rw[aq] at ho hn;refine⟨v',w',hr,?_,Fm.grown (S:=λb=>v.ownBlock=some b) hg (λk hk _=>hk),hn⟩;rw[dp];exact ho
theorem sj{P:Program}{t e s:TypeId}(B:ByteT P t e s){w:World}{base:Nat}{v:Value}{n:Nat}{l:Bs}(h:w.ownsRow base e 1 v n (bc l)):(convert t s v).run P w=.ok (stv l) w:=by
 have hl:=h.1;rw[bU,IZ] at hl;rcases(pB h).2 with⟨rfl,h0⟩|⟨g,cap,rfl,_,_,hc⟩
 ·rw[h0] at hl;rw[H0 hl];exact nn B w 0 0
 ·have hr:=run_convert_bytes_arg (P:=P) w t e B.sl B.u8 g 0 n cap (l.map λb=>(b.toNat:Int)) (by simpa using hl) (λi hi=>by rw[E7,hc i hi,vO];have:i<l.length:=oM;simp[List.getD,this]) s B.st;rw[hr];congr 2;apply Kr;simp only[strOfNums,str,JG];congr 1
  conv=>rhs;rw[<- List.map_id l]
  apply Kx;intro x _;simp
theorem ti{g o n c i j:Nat}(hij:i<=j)(hj:j<=c)(k k':IntKind):∃o',slV 1 (.slice (some ⟨g,o,none⟩) n c) (some (.int k i)) (some (.int k' j)) none=some (.slice (some ⟨g,o',none⟩) (j - i) (c - i))/\(i<c->o'=o+i)/\o'<=o+i/\(j=i->True):=by
 have e1:bnd c c none=some c:=rfl;have e2:bnd c n (some (.int k' j))=some j:=eL hj k';have e3:bnd j 0 (some (.int k i))=some i:=eL hij k;refine⟨if c=i then o else o+i,?_,λh=>by rw[IT oM],by split<;>omega,λ_=>trivial⟩;simp only[slV,Bq,e1,e2,e3,IW,I2];congr 2;split
 ·rfl
 ·rw[aA,IZ]
theorem yN{g o n c i:Nat}(hi:i<=n)(hn:n<=c)(k:IntKind):∃o',slV 1 (.slice (some ⟨g,o,none⟩) n c) (some (.int k i)) none none=some (.slice (some ⟨g,o',none⟩) (n - i) (c - i))/\(i<c->o'=o+i)/\o'<=o+i:=by
 have e1:bnd c c none=some c:=rfl;have e3:bnd n 0 (some (.int k i))=some i:=eL hi k;refine⟨if c=i then o else o+i,?_,λh=>by rw[IT oM],by split<;>omega⟩;simp only[slV,Bq,e1,e3,IW,I2];congr 2;split
 ·rfl
 ·rw[aA,IZ]
def sz1(vs:List Value):Nat:=match (vs[1]?:Option Value) with
 | some (.string s)=>s.size
 | _=>0
theorem BR(a:Value)(s:Bs)(l:List Value):sz1 (a::stv s::l)=s.length:=by simp[sz1,aq]
theorem dI{n:Nat}(h:n<=9223372036854775807):IntKind.i64.wrap (n:Int)=n:=af oM
theorem CZ(d:TypeDesc){a b:Int}(hb:b≠0)(h : -9223372036854775808<=a.tdiv b/\a.tdiv b<=9223372036854775807):aC d .quo (iv a) (iv b)=some (iv (a.tdiv b)):=by rw[zT,IT hb,af h]
theorem nI(d:TypeDesc){n m:Nat}(hm:0<m)(h:n<=9223372036854775807){b:Int}(hb:b=(m:Int)):aC d .quo (iv n) (iv b)=some (iv ((n / m:Nat):Int)):=by
 subst hb;have e:(n:Int).tdiv (m:Int)=((n / m:Nat):Int):=by rw[Int.tdiv_eq_ediv_of_nonneg oM];rfl
 have hle:n / m<=n:=Nat.div_le_self n m;rw[CZ d oM (by rw[e];generalize n / m=q at *;omega),e]
theorem eF(d:TypeDesc){n m:Nat}(hm:0<m)(h:n<=9223372036854775807){b:Int}(hb:b=(m:Int)):aC d .rem (iv n) (iv b)=some (iv ((n % m:Nat):Int)):=by
 subst hb;have e:(n:Int).tmod (m:Int)=((n % m:Nat):Int):=by rw[Int.tmod_eq_emod_of_nonneg oM];rfl
 have hle:n % m<=n:=Nat.mod_le n m;rw[nb,IT oM,e]
theorem ja(d:TypeDesc){a b:Int}(ha:0<=a)(hb:0<b)(h:a<=9223372036854775807):aC d .quo (iv a) (iv b)=some (iv (a / b)):=by obtain⟨n,rfl⟩:=E9 ha;obtain⟨m,rfl⟩:=E9 (oM:0<=b);rw[nI d (n:=n) (m:=m) oM oM rfl];rfl
theorem nK(d:TypeDesc){a b:Int}(ha:0<=a)(hb:0<b)(h:a<=9223372036854775807):aC d .rem (iv a) (iv b)=some (iv (a % b)):=by obtain⟨n,rfl⟩:=E9 ha;obtain⟨m,rfl⟩:=E9 (oM:0<=b);rw[eF d (n:=n) (m:=m) oM oM rfl];rfl
theorem DL{n:Int}(h : -9223372036854775808<=n/\n<=9223372036854775807):unV .xor (iv n)=some (iv (-(n+1))):=by
 have e1:BitVec.ofInt 64 (-1)=BitVec.allOnes 64:=dC;have e2:((BitVec.ofInt 64 (-1)) ^^^ (BitVec.ofInt 64 n)).toNat=18446744073709551615 - (n % 18446744073709551616).toNat:=by rw[e1,BitVec.allOnes_xor,BitVec.toNat_not,BitVec.toNat_ofInt];rfl
 have e3:unV .xor (iv n)=some (iv (IntKind.i64.wrap (((BitVec.ofInt 64 (-1)) ^^^ (BitVec.ofInt 64 n)).toNat:Int))):=rfl;rw[e3,e2];congr 2;unfold IntKind.wrap;simp[IntKind.bits,IntKind.signed];omega
def vG(k:IntKind)(a b:Int):Int:=k.wrap ((BitVec.ofInt k.bits a) &&& (BitVec.ofInt k.bits b)).toNat
theorem fJ(d:TypeDesc)(k:IntKind)(a b:Int):aC d .and (.int k a) (.int k b)=some (.int k (vG k a b)):=by simp[aC,qm,oh,vG]
theorem aY(w n:Nat)(h:n<2 ^ w):(BitVec.ofInt w (n:Int)).toNat=n:=by rw[BitVec.toNat_ofInt];have e:(((2 ^ w:Nat):Int))=(2 ^ w:Nat):=rfl;rw[Int.emod_eq_of_lt oM oM];rfl
def orI(k:IntKind)(a b:Int):Int:=k.wrap ((BitVec.ofInt k.bits a) ||| (BitVec.ofInt k.bits b)).toNat
theorem qu(d:TypeDesc)(k:IntKind)(a b:Int):aC d .or (.int k a) (.int k b)=some (.int k (orI k a b)):=by simp[aC,qm,oh,orI]
def jT(k:IntKind)(a b:Int):Int:=k.wrap ((BitVec.ofInt k.bits a) &&& ~~~ (BitVec.ofInt k.bits b)).toNat
theorem jW(d:TypeDesc)(k:IntKind)(a b:Int):aC d .andNot (.int k a) (.int k b)=some (.int k (jT k a b)):=by simp[aC,qm,oh,jT]
theorem vH(a b:Nat)(ha:a<=9223372036854775807)(hb:b<=9223372036854775807):vG .i64 a b=((a &&& b:Nat):Int):=by have h1:(BitVec.ofInt 64 (a:Int)).toNat=a:=aY 64 a oM;have h2:(BitVec.ofInt 64 (b:Int)).toNat=b:=aY 64 b oM;show IntKind.i64.wrap (((BitVec.ofInt 64 (a:Int)) &&& (BitVec.ofInt 64 (b:Int))).toNat:Int)=_;rw[BitVec.toNat_and,h1,h2];have:a &&& b<=a:=Nat.and_le_left;generalize a &&& b=c at *;exact dI oM
theorem En(a b:Nat)(ha:a<256)(hb:b<256):vG .u8 a b=((a &&& b:Nat):Int):=by have h1:(BitVec.ofInt 8 (a:Int)).toNat=a:=aY 8 a oM;have h2:(BitVec.ofInt 8 (b:Int)).toNat=b:=aY 8 b oM;show IntKind.u8.wrap (((BitVec.ofInt 8 (a:Int)) &&& (BitVec.ofInt 8 (b:Int))).toNat:Int)=_;rw[BitVec.toNat_and,h1,h2];have:a &&& b<=a:=Nat.and_le_left;generalize a &&& b=c at *;unfold IntKind.wrap;simp[IntKind.bits,IntKind.signed];omega
theorem Fa{a b n:Nat}(ha:a<2 ^ n)(hb:b<2 ^ n):a ||| b<2 ^ n:=Nat.or_lt_two_pow ha hb
theorem EZ(a b:Nat)(ha:a<2 ^ 63)(hb:b<2 ^ 63):orI .i64 a b=((a ||| b:Nat):Int):=by have h1:(BitVec.ofInt 64 (a:Int)).toNat=a:=aY 64 a oM;have h2:(BitVec.ofInt 64 (b:Int)).toNat=b:=aY 64 b oM;show IntKind.i64.wrap (((BitVec.ofInt 64 (a:Int)) ||| (BitVec.ofInt 64 (b:Int))).toNat:Int)=_;rw[BitVec.toNat_or,h1,h2];have:=Fa ha hb;generalize a ||| b=c at *;exact dI oM
theorem GY(a b:Nat)(ha:a<256)(hb:b<256):orI .u8 a b=((a ||| b:Nat):Int):=by have h1:(BitVec.ofInt 8 (a:Int)).toNat=a:=aY 8 a oM;have h2:(BitVec.ofInt 8 (b:Int)).toNat=b:=aY 8 b oM;show IntKind.u8.wrap (((BitVec.ofInt 8 (a:Int)) ||| (BitVec.ofInt 8 (b:Int))).toNat:Int)=_;rw[BitVec.toNat_or,h1,h2];have:=Fa (n:=8) ha hb;generalize a ||| b=c at *;unfold IntKind.wrap;simp[IntKind.bits,IntKind.signed];omega
theorem jI(d:TypeDesc){a b:Int}(hb:0<b):aC d .rem (iv a) (iv b)=some (iv (a.tmod b)):=by rw[nb,IT oM]
theorem aV(a b:Int):(a == b)=decide (a=b):=by by_cases h:a=b<;>simp[h]
theorem aF(a b:Int):(a != b)=!decide (a=b):=by by_cases h:a=b<;>simp[h]
def vy(c:Nat):Nat:=(c / 2) ^^^ (if c % 2=1 then 3988292384 else 0)
def lH:Nat->Nat->Nat
 | 0,c=>c
 | k+1,c=>lH k (vy c)
def EH(c:Nat)(b:UInt8):Nat:=lH 8 (c ^^^ b.toNat)
def Cp(c:Nat)(l:Bs):Nat:=l.foldl EH c
def crc(l:Bs):Nat:=Cp 4294967295 l ^^^ 4294967295
theorem Cq{c:Nat}(h:c<2 ^ 32):vy c<2 ^ 32:=by unfold vy;refine Ki oM ?_;split<;>omega
theorem nq:∀(k:Nat) {c:Nat},c<2 ^ 32->lH k c<2 ^ 32
 | 0,_,h=>h
 | k+1,_,h=>nq k (Cq h)
theorem Bg{c:Nat}(h:c<2 ^ 32)(b:UInt8):c ^^^ b.toNat<2 ^ 32:=Ki h (by have:=b.toNat_lt;omega)
theorem Co{c:Nat}(h:c<2 ^ 32)(b:UInt8):EH c b<2 ^ 32:=nq 8 (Bg h b)
theorem qz:∀(l:Bs) {c:Nat},c<2 ^ 32->Cp c l<2 ^ 32
 | [],_,h=>h
 | b::l,_,h=>qz l (Co h b)
theorem Br(l:Bs):crc l<2 ^ 32:=Ki (qz l oM) oM
theorem zZ(a b:Nat):vy (a ^^^ b)=vy a ^^^ vy b:=by
 unfold vy;have h1:(a ^^^ b) / 2=a / 2 ^^^ b / 2:=by have:=Nat.shiftRight_xor_distrib (a:=a) (b:=b) (i:=1);simpa[Nat.shiftRight_eq_div_pow] using this
 have h2:(a ^^^ b) % 2=(a % 2 ^^^ b % 2):=by have:=Nat.xor_mod_two_pow (a:=a) (b:=b) (n:=1);simpa using this
 rw[h1,h2];have ha:a % 2=0\/a % 2=1:=oM;have hb:b % 2=0\/b % 2=1:=oM;rcases ha with ha|ha<;>rcases hb with hb|hb<;>rw[ha,hb]<;>simp
 ·rw[KC]
 ·rw[KC,KC,Nat.xor_comm (b / 2)]
 ·rw[KC,Nat.xor_comm 3988292384,KC,Nat.xor_self,Nat.xor_zero]
theorem sk:∀(k a b:Nat),lH k (a ^^^ b)=lH k a ^^^ lH k b
 | 0,_,_=>rfl
 | k+1,a,b=>by rw[lH,zZ,sk k];rfl
theorem lQ:∀(k x:Nat),lH k (x*2 ^ k)=x
 | 0,x=>by simp[lH]
 | k+1,x=>by
  rw[lH];have:vy (x*2 ^ (k+1))=x*2 ^ k:=by unfold vy;rw[Nat.pow_succ,<- Nat.mul_assoc,Nat.mul_div_cancel _ oM,IT oM,Nat.xor_zero]
  rw[this];exact lQ k x
theorem uU(c:Nat):c=(c / 256*256) ^^^ (c % 256):=by
 have h:=Nat.two_pow_add_eq_or_of_lt (i:=8) (b:=c % 256) oM (c / 256);apply Nat.eq_of_testBit_eq;intro i;rw[Nat.testBit_xor,show c / 256*256=(c / 256)*2 ^ 8 from rfl,Nat.testBit_mul_two_pow,show c % 256=c % 2 ^ 8 from rfl,Nat.testBit_mod_two_pow,show c / 256=c / 2 ^ 8 from rfl,Nat.testBit_div_two_pow];by_cases hi:i<8
 ·simp[hi,(oM:¬8<=i)]
 ·simp[hi,(oM:8<=i)]
theorem tQ(c:Nat)(b:UInt8):EH c b=c / 256 ^^^ lH 8 (c % 256 ^^^ b.toNat):=by
 unfold EH;have h:c ^^^ b.toNat=(c / 256*256) ^^^ (c % 256 ^^^ b.toNat):=by rw[<- KC,<- uU]
 rw[h,sk,show c / 256*256=c / 256*2 ^ 8 from rfl,lQ]
def beN:Nat->Nat->Bs
 | 0,_=>[]
 | k+1,n=>beN k (n / 256)++[UInt8.ofNat (n % 256)]
def ofB(l:Bs):Nat:=l.foldl (λn b=>n*256+b.toNat) 0
theorem aH:∀(k n:Nat),(beN k n).length=k
 | 0,_=>rfl
 | k+1,n=>by rw[beN,C5,aH];rfl
theorem sP(l:Bs)(b:UInt8):ofB (l++[b])=ofB l*256+b.toNat:=by unfold ofB;rw[KB];rfl
theorem fk{n:Nat}(h:n<256):(UInt8.ofNat n).toNat=n:=by simp[I9 h]
theorem iX:∀(k n:Nat),ofB (beN k n)=n % 256 ^ k
 | 0,n=>by simp[beN,ofB,Nat.mod_one]
 | k+1,n=>by rw[beN,sP,iX,fk oM,Nat.pow_succ];rw[Nat.mul_comm (256 ^ k) 256,Nat.mod_mul];omega
theorem Dr:∀(k:Nat) (l:Bs),l.length=k+1->∃m b,l=m++[b]/\m.length=k:=by
 intro k l h;have hne:l≠[]:=by rintro rfl;simp at h
 exact⟨l.dropLast,l.getLast hne,(List.dropLast_concat_getLast hne).symm,by rw[List.length_dropLast,h];rfl⟩
theorem eW:∀(k:Nat) (l:Bs),l.length=k->beN k (ofB l)=l
 | 0,l,h=>by rw[H0 h];rfl
 | k+1,l,h=>by obtain⟨m,b,rfl,hm⟩:=Dr k l h;have hb:=b.toNat_lt;rw[sP,beN,(oM:(ofB m*256+b.toNat) / 256=ofB m),(oM:(ofB m*256+b.toNat) % 256=b.toNat),eW k m hm];congr 2;exact UInt8.toNat_inj.1 (fk oM)
theorem py:∀(k:Nat) (l:Bs),l.length=k->ofB l<256 ^ k:=by intro k l h;have:=iX k (ofB l);rw[eW k l h] at this;rw[this];exact Kj _ (Nat.pow_pos oM)
theorem Gc(b:UInt8):beN 1 b.toNat=[b]:=by
 have:=eW 1 [b] rfl;have h:ofB [b]=b.toNat:=by simp[ofB]
 rw[h] at this;exact this
structure Pg where
 lsn : Int
 kind : Int
 level : Int
 right : Int
 high : Bs
 items : List Bs
 deriving DecidableEq
def pg0:Pg:=⟨0,0,0,0,[],[]⟩
def aG(n:Nat):Bs:=List.replicate n 0
theorem cm(n:Nat):(aG n).length=n:=G3
def itB(it:Bs):Bs:=beN 2 it.length++it
theorem qR(it:Bs):(itB it).length=2+it.length:=by rw[itB,C5,aH]
def bp(p:Pg):Nat:=p.items.foldl (λn it=>n+(2+it.length)) (20+p.high.length)
def lJ(p:Pg):Bs:=beN 8 p.lsn.toNat++(beN 1 p.kind.toNat++(beN 1 p.level.toNat++(beN 4 p.right.toNat++(beN 1 p.items.length++(beN 1 p.high.length++p.high)))))
def cZ(p:Pg):Bs:=lJ p++p.items.flatMap itB
def da(p:Pg):Bs:=cZ p++aG (508 - (cZ p).length)
def pErr(p:Pg):Int:=
 bif decide (p.lsn<0\/p.level<0\/p.right<0\/p.kind<1\/3<p.kind\/255<p.level\/4294967295<p.right) then 4
 else bif decide (255<p.high.length\/255<p.items.length\/512<bp p) then 3 else 0
def pEnc(p:Pg):Bs×Int:=bif decide (pErr p=0) then(beN 4 (crc (da p))++da p,0) else([],pErr p)
theorem oU(l:List Bs)(n:Nat):l.foldl (λn it=>n+(2+it.length)) n=n+(l.flatMap itB).length:=by
 induction l generalizing n with
 | nil=>simp
 | cons x l ih=>rw[Kv,ih,G1,C5,qR];omega
theorem xZ(p:Pg):(lJ p).length=16+p.high.length:=by simp only[lJ,C5,aH];omega
theorem kO(p:Pg):(cZ p).length+4=bp p:=by rw[bp,oU,cZ,C5,xZ];omega
theorem pF{p:Pg}(h:bp p<=512):(da p).length=508:=by have:=kO p;rw[da,C5,cm];omega
theorem rf{p:Pg}(h:pErr p=0):(0<=p.lsn/\0<=p.level/\0<=p.right/\1<=p.kind/\p.kind<=3/\p.level<=255/\p.right<=4294967295)/\p.high.length<=255/\p.items.length<=255/\bp p<=512:=by
 unfold pErr at h;cases h1:decide (p.lsn<0\/p.level<0\/p.right<0\/p.kind<1\/3<p.kind\/255<p.level\/4294967295<p.right) with
 | true=>rw[h1] at h;simp at h
 | false=>
  cases h2:decide (255<p.high.length\/255<p.items.length\/512<bp p) with
  | true=>rw[h1,h2] at h;simp at h
  | false=>rw[C7] at h1 h2;omega
theorem CT{p:Pg}(h:(0<=p.lsn/\0<=p.level/\0<=p.right/\1<=p.kind/\p.kind<=3/\p.level<=255/\p.right<=4294967295)/\p.high.length<=255/\p.items.length<=255/\bp p<=512):pErr p=0:=by
 unfold pErr;rw[show decide (p.lsn<0\/p.level<0\/p.right<0\/p.kind<1\/3<p.kind\/255<p.level\/4294967295<p.right)=false by rw[C7];omega,show decide (255<p.high.length\/255<p.items.length\/512<bp p)=false by rw[C7];omega]
 rfl
theorem kQ{p:Pg}(h:pErr p=0):pEnc p=(beN 4 (crc (da p))++da p,0):=by unfold pEnc;rw[h];rfl
theorem jF{p:Pg}(h:pErr p≠0):pEnc p=([],pErr p):=by unfold pEnc;rw[show decide (pErr p=0)=false by simpa using h];rfl
theorem ij{p:Pg}(h:pErr p=0):(pEnc p).1.length=512:=by rw[kQ h,C5,aH,pF (rf h).2.2.2]
theorem sX(p:Pg):(pEnc p).2=pErr p:=by
 by_cases h:pErr p=0
 ·rw[kQ h,h]
 ·rw[jF h]
def bV:Nat->Bs->Option (List Bs×Bs)
 | 0,s=>some ([],s)
 | n+1,s=>bif decide (s.length<2) then none
  else bif decide ((s.drop 2).length<ofB (s.take 2)) then none
  else(bV n ((s.drop 2).drop (ofB (s.take 2)))).map λx=>((s.drop 2).take (ofB (s.take 2))::x.1,x.2)
theorem AZ(k n:Nat)(t:Bs):(beN k n++t).take k=beN k n:=by rw[IU (by rw[aH];exact D9 _),G0 (by rw[aH];exact D9 _)]
theorem sw(k n:Nat)(t:Bs):(beN k n++t).drop k=t:=Kw (aH k n)
theorem pE:∀(l:List Bs) (t:Bs),(∀it∈l,it.length<65536)->bV l.length (l.flatMap itB++t)=some (l,t)
 | [],t,_=>rfl
 | x::l,t,h=>by
  have hx:=h x sI;have ih:=pE l t (λit hi=>h it (Jp _ hi));rw[G2,bV,G1,itB];have e:(beN 2 x.length++x++l.flatMap itB++t)=beN 2 x.length++(x++(l.flatMap itB++t)):=by simp only[G7]
  rw[e,AZ,sw,iX,I9 oM];rw[show decide ((beN 2 x.length++(x++(l.flatMap itB++t))).length<2)=false by rw[C7,C5,aH];omega,C8];rw[show decide ((x++(l.flatMap itB++t)).length<x.length)=false by rw[C7,C5];omega,C8];rw[List.drop_left,List.take_left,ih];rfl
theorem pD:∀(n:Nat) (s:Bs) (l:List Bs) (t:Bs),bV n s=some (l,t)->l.length=n/\s=l.flatMap itB++t/\∀it∈l,it.length<65536
 | 0,s,l,t,h=>by rw[bV] at h;cases h;exact⟨rfl,rfl,sI⟩
 | n+1,s,l,t,h=>by
  rw[bV] at h;cases h1:decide (s.length<2) with
  | true=>rw[h1,D8] at h;cases h
  | false=>
  cases h2:decide ((s.drop 2).length<ofB (s.take 2)) with
  | true=>rw[h1,h2,C8,D8] at h;cases h
  | false=>
  rw[h1,h2,C8,C8] at h;cases h3:bV n ((s.drop 2).drop (ofB (s.take 2))) with
  | none=>rw[h3] at h;cases h
  | some q=>
   obtain⟨l',t'⟩:=q;rw[h3] at h;cases h;obtain⟨g1,g2,g3⟩:=pD n _ _ _ h3;rw[C7] at h1 h2;have hlt:ofB (s.take 2)<256 ^ 2:=py 2 _ (by rw[E5];omega);have hl:((s.drop 2).take (ofB (s.take 2))).length=ofB (s.take 2):=by rw[E5];omega
   refine⟨by simp[g1],?_,?_⟩
   ·rw[G1,itB,hl,eW 2 _ (by rw[E5];omega)];rw[G7,G7,<- g2,JM,JM]
   ·intro it hi;rcases H3.1 hi with rfl|hi
    ·rw[hl];exact hlt
    ·exact g3 it hi
def Bt(d:Bs):Nat:=ofB ((d.drop 4).take 8)
def cF(d:Bs):Nat:=(d.getD 12 0).toNat
def eZ(d:Bs):Nat:=(d.getD 13 0).toNat
def gR(d:Bs):Nat:=ofB ((d.drop 14).take 4)
def cq(d:Bs):Nat:=(d.getD 18 0).toNat
def dHl(d:Bs):Nat:=(d.getD 19 0).toNat
def jZ(d:Bs):Bs:=(d.drop 20).take (dHl d)
def gw(d:Bs):Bs:=(d.drop 20).drop (dHl d)
def dJ(d:Bs):Pg×Int:=
 bif decide (d.length≠512) then(pg0,31)
 else bif decide (beN 4 (crc (d.drop 4))≠d.take 4) then(pg0,30)
 else match bV (cq d) (gw d) with
  | none=>(pg0,31)
  | some (l,t)=>bif decide (t≠aG t.length\/127<(d.getD 4 0).toNat\/cF d<1\/3<cF d) then(pg0,31)
   else(⟨(Bt d % 2 ^ 63:Nat),cF d,eZ d,gR d,jZ d,l⟩,0)
def parts(s l8:Bs)(k v:UInt8)(r:Bs)(n h:UInt8)(tail:Bs):Bs:=s++(l8++(k::v::(r++(n::h::tail))))
theorem AF{d:Bs}(h:d.length=512):∃s l8 k v r n hh tail,d=parts s l8 k v r n hh tail/\s.length=4/\l8.length=8/\r.length=4/\tail.length=492:=by
 match d,h with
 | s0::s1::s2::s3::a0::a1::a2::a3::a4::a5::a6::a7::k::v::r0::r1::r2::r3::n::hh::tail,h=>exact⟨[s0,s1,s2,s3],[a0,a1,a2,a3,a4,a5,a6,a7],k,v,[r0,r1,r2,r3],n,hh,tail,rfl,rfl,rfl,rfl,by simp only[G2] at h;omega⟩
theorem sY{s l8 r tail:Bs}{k v n h:UInt8}(hs:s.length=4)(h8:l8.length=8)(hr:r.length=4):
  (parts s l8 k v r n h tail).take 4=s/\(parts s l8 k v r n h tail).drop 4=l8++(k::v::(r++(n::h::tail)))/\Bt (parts s l8 k v r n h tail)=ofB l8/\cF (parts s l8 k v r n h tail)=k.toNat/\eZ (parts s l8 k v r n h tail)=v.toNat /\
  gR (parts s l8 k v r n h tail)=ofB r/\cq (parts s l8 k v r n h tail)=n.toNat/\dHl (parts s l8 k v r n h tail)=h.toNat/\(parts s l8 k v r n h tail).drop 20=tail/\(parts s l8 k v r n h tail).getD 4 0=l8.getD 0 0:=by
 match s,hs,l8,h8,r,hr with
 | [s0,s1,s2,s3],_,[a0,a1,a2,a3,a4,a5,a6,a7],_,[r0,r1,r2,r3],_=>exact⟨rfl,rfl,rfl,rfl,rfl,rfl,rfl,rfl,rfl,rfl⟩
theorem xS{l8:Bs}(h8:l8.length=8):127<(l8.getD 0 0).toNat↔9223372036854775808<=ofB l8:=by
 match l8,h8 with
 | [a0,a1,a2,a3,a4,a5,a6,a7],_=>have h0:=a0.toNat_lt;have h1:=a1.toNat_lt;have h2:=a2.toNat_lt;have h3:=a3.toNat_lt;have h4:=a4.toNat_lt;have h5:=a5.toNat_lt;have h6:=a6.toNat_lt;have h7:=a7.toNat_lt;show 127<a0.toNat↔_;simp only[ofB,Kv,List.foldl_nil];omega
theorem rh(p:Pg)(s:Bs):s++da p=parts s (beN 8 p.lsn.toNat) (UInt8.ofNat (p.kind.toNat % 256)) (UInt8.ofNat (p.level.toNat % 256)) (beN 4 p.right.toNat) (UInt8.ofNat (p.items.length % 256)) (UInt8.ofNat (p.high.length % 256)) (p.high++(p.items.flatMap itB++aG (508 - (cZ p).length))):=by
 rw[da,cZ,lJ,parts];simp only[G7]
 rfl
theorem mg{p:Pg}(h:bp p<=512):∀it∈p.items,it.length<65536:=by
 intro it hi;rw[bp,oU] at h;have:it.length<=(p.items.flatMap itB).length:=by obtain⟨l1,l2,e⟩:=List.append_of_mem hi;rw[e,Jr,G1,C5,C5,qR];omega
 omega
theorem Cr{p:Pg}(h:pErr p=0)(hl:p.lsn<=9223372036854775807):dJ (pEnc p).1=(p,0):=by
 obtain⟨⟨b1,b2,b3,b4,b5,b6,b7⟩,b8,b9,b10⟩:=rf h;have hlen:=ij h;rw[kQ h] at hlen ⊢;simp only at hlen ⊢;obtain⟨q1,q2,q3,q4,q5,q6,q7,q8,q9,q10⟩:=sY (s:=beN 4 (crc (da p))) (l8:=beN 8 p.lsn.toNat) (k:=UInt8.ofNat (p.kind.toNat % 256)) (v:=UInt8.ofNat (p.level.toNat % 256)) (r:=beN 4 p.right.toNat) (n:=UInt8.ofNat (p.items.length % 256)) (h:=UInt8.ofNat (p.high.length % 256)) (tail:=p.high++(p.items.flatMap itB++aG (508 - (cZ p).length))) (aH _ _) (aH _ _) (aH _ _);have hp:=rh p (beN 4 (crc (da p)));have hd4:(beN 4 (crc (da p))++da p).drop 4=da p:=sw _ _ _;generalize hD:beN 4 (crc (da p))++da p=D at hlen hd4 hp;rw[<- hp] at q1 q2 q3 q4 q5 q6 q7 q8 q9 q10;rw[fk oM] at q4 q5 q7 q8;rw[iX] at q3 q6;have hmany:cq D=p.items.length:=by rw[q7];omega
 have hhl:dHl D=p.high.length:=by rw[q8];omega
 have hhigh:jZ D=p.high:=by rw[jZ,q9,hhl,List.take_left]
 have hrest:gw D=p.items.flatMap itB++aG (508 - (cZ p).length):=by rw[gw,q9,hhl,List.drop_left]
 have htop:¬127<(D.getD 4 0).toNat:=by rw[q10,xS (aH _ _),iX];omega
 unfold dJ;rw[show decide (D.length≠512)=false by simpa using hlen,C8];rw[show decide (beN 4 (crc (D.drop 4))≠D.take 4)=false by rw[hd4,q1];simp,C8];rw[hmany,hrest,pE _ _ (mg b10)];simp only;have hz:¬aG (508 - (cZ p).length)≠aG (aG (508 - (cZ p).length)).length:=by rw[cm];simp
 rw[show decide (aG (508 - (cZ p).length)≠aG (aG (508 - (cZ p).length)).length\/127<(D.getD 4 0).toNat\/cF D<1\/3<cF D)=false by
  rw[C7];rintro(h|h|h|h)
  ·exact hz h
  ·exact htop h
  ·omega
  ·omega,C8]
 rw[q3,q4,q5,q6,hhigh];obtain⟨lsn,kind,level,right,high,items⟩:=p;simp only at b1 b2 b3 b4 b5 b6 b7 hl ⊢;congr 2<;>omega
theorem Cv{d:Bs}(h:(dJ d).2=0):pErr (dJ d).1=0/\(pEnc (dJ d).1).1=d/\(dJ d).1.lsn<=9223372036854775807:=by
 unfold dJ at h ⊢;cases h1:decide (d.length≠512) with
 | true=>rw[h1,D8] at h;simp at h
 | false=>
 cases h2:decide (beN 4 (crc (d.drop 4))≠d.take 4) with
 | true=>rw[h1,h2,C8,D8] at h;simp at h
 | false=>
 rw[h1,h2,C8,C8] at h;simp only[C8];cases h3:bV (cq d) (gw d) with
 | none=>rw[h3] at h;simp at h
 | some q=>
 obtain⟨l,t⟩:=q;rw[h3] at h;simp only at h ⊢;cases h4:decide (t≠aG t.length\/127<(d.getD 4 0).toNat\/cF d<1\/3<cF d) with
 | true=>rw[h4,D8] at h;simp at h
 | false=>
 simp only[C8];have hlen:d.length=512:=by simpa using h1
 have hsum:beN 4 (crc (d.drop 4))=d.take 4:=by simpa using h2
 rw[C7] at h4;have n1:t=aG t.length:=G5 λhne=>h4 (.inl hne);have n2:¬127<(d.getD 4 0).toNat:=λe=>h4 (.inr (.inl e));have n3:¬cF d<1:=λe=>h4 (.inr (.inr (.inl e)));have n4:¬3<cF d:=λe=>h4 (.inr (.inr (.inr e)));obtain⟨g1,g2,g3⟩:=pD _ _ _ _ h3;obtain⟨s,l8,k,v,r,n,hh,tail,hd,es,e8,er,et⟩:=AF hlen;obtain⟨q1,q2,q3,q4,q5,q6,q7,q8,q9,q10⟩:=sY (k:=k) (v:=v) (n:=n) (h:=hh) (tail:=tail) es e8 er;rw[<- hd] at q1 q2 q3 q4 q5 q6 q7 q8 q9 q10;have hl8:ofB l8<9223372036854775808:=by rw[q10,xS e8] at n2;omega
 have hk:=k.toNat_lt;have hv:=v.toNat_lt;have hn:=n.toNat_lt;have hhh:=hh.toNat_lt;have hr:=py 4 r er;have hhigh:(jZ d).length=hh.toNat:=by rw[jZ,q9,q8,E5,et];omega
 have htail:tail=jZ d++(l.flatMap itB++t):=by rw[<- g2,jZ,gw,q9,JM]
 generalize hP:(⟨(Bt d % 2 ^ 63:Nat),cF d,eZ d,gR d,jZ d,l⟩:Pg)=P;have hbody:d.drop 4=cZ P++t:=by rw[q2,<- hP,cZ,lJ];simp only[H6,q3,q4,q5,q6,hhigh,g1,q7];rw[I9 (oM:ofB l8<2 ^ 63),eW 8 l8 e8,eW 4 r er,Gc,Gc,Gc,Gc,htail];simp only[G7,Jj,H9]
 have hbl:(cZ P).length+t.length=508:=by have:=IR List.length hbody;rw[C5,G4,hlen] at this;omega
 have htz:t=aG (508 - (cZ P).length):=by rw[(oM:508 - (cZ P).length=t.length)];exact n1
 have hsz:bp P<=512:=by have:=kO P;omega
 have hok:pErr P=0:=by
  refine CT ⟨?_,?_,?_,hsz⟩
  ·rw[<- hP];simp only;omega
  ·rw[<- hP];simp only;omega
  ·rw[<- hP];simp only;omega
 refine⟨hok,?_,?_⟩
 ·rw[kQ hok];have ht:da P=d.drop 4:=by rw[da,<- htz,hbody]
  simp only;rw[ht,hsum,JM]
 ·omega
def rdN(most:Int):Nat->Nat->Nat->Bs->Int×Bs×Int
 | 0,_,_,_=>(0,[],11)
 | _+1,_,_,[]=>(0,[],10)
 | f+1,k,n,b::t=>
  let n':=n+(b.toNat % 128)*128 ^ k
  bif decide (b=0/\0<k) then(0,[],11)
  else bif decide (128<=b.toNat) then rdN most f (k+1) n' t
  else bif decide (max most 0<(n':Int)) then(0,[],11)
  else(n',t,0)
def rdNum(most:Int)(s:Bs)(e:Int):Int×Bs×Int:=bif decide (e=0) then rdN most 9 0 0 s else(0,s,e)
def vz(s:Bs)(e:Int):Int:=bif decide (e=0)&&decide (0<s.length) then 12 else e
def Bx:Nat->Nat->Bs
 | 0,n=>[UInt8.ofNat n]
 | f+1,n=>bif Nat.blt 127 n then UInt8.ofNat (n % 128+128)::Bx f (n / 128) else[UInt8.ofNat n]
def ql(n:Nat):Bs:=Bx n n
theorem wZ:∀(f g n:Nat),n<=f->n<=g->Bx f n=Bx g n
 | 0,0,n,_,_=>rfl
 | 0,g+1,n,h,_=>by obtain rfl:n=0:=oM
                   rfl
 | f+1,0,n,_,h=>by obtain rfl:n=0:=oM
                   rfl
 | f+1,g+1,n,h1,h2=>by rw[Bx,Bx,wZ f g (n / 128) oM oM]
theorem dj{n:Nat}(h:n<=127):ql n=[UInt8.ofNat n]:=by
 have:Nat.blt 127 n=false:=by cases hb:Nat.blt 127 n with|false=>rfl|true=>rw[Nat.blt_eq] at hb;omega
 unfold ql;cases n with
 | zero=>rfl
 | succ n=>rw[Bx,this];rfl
theorem gU{n:Nat}(h:127<n):ql n=UInt8.ofNat (n % 128+128)::ql (n / 128):=by
 have:Nat.blt 127 n=true:=by rw[Nat.blt_eq];exact h
 unfold ql;cases n with
 | zero=>omega
 | succ n=>rw[Bx,this,D8,wZ n ((n+1) / 128) _ oM oM]
theorem sy:∀(f n:Nat),n<128 ^ f->(ql n).length<=max f 1
 | 0,n,h=>by rw[dj oM];simp
 | f+1,n,h=>by
  by_cases hn:127<n
  ·rw[gU hn,G2];have:=sy f (n / 128) (by rw[Nat.div_lt_iff_lt_mul oM];rw[Nat.pow_succ] at h;exact h);have hf:f≠0:=by rintro rfl;simp at h;omega
   omega
  ·rw[dj oM];simp
theorem xa{n:Nat}(h:n<=9223372036854775807):1<=(ql n).length/\(ql n).length<=9:=by
 have:=sy 9 n oM;refine⟨?_,oM⟩;by_cases hn:127<n
 ·rw[gU hn];simp
 ·rw[dj oM];simp
theorem iG{n:Nat}(h:n<256):(UInt8.ofNat n).toNat=n:=by simp[I9 h]
theorem yo(most:Int):∀(f k n m:Nat) (t:Bs),n<128 ^ f->0<f->(0<k->0<n)->(m+n*128 ^ k:Nat)<=max most 0->rdN most f k m (ql n++t)=(((m+n*128 ^ k:Nat):Int),t,0)
 | 0,k,n,m,t,h,h0,hk,hm=>by omega
 | f+1,k,n,m,t,h,h0,hk,hm=>by
  by_cases hn:127<n
  ·rw[gU hn,Jj,rdN]
   have e1:(UInt8.ofNat (n % 128+128)).toNat=n % 128+128:=iG (by omega)
   have hne:decide (UInt8.ofNat (n % 128+128)=0/\0<k)=false:=by
    rw[C7]
    rintro⟨h,_⟩
    have:=IR UInt8.toNat h
    rw[e1] at this;simp at this
   simp only[e1,hne,C8,show decide (128<=n % 128+128)=true by simp,D8,Nat.add_mod_right,Nat.mod_mod]
   have hd:n / 128<128 ^ f:=by rw[Nat.div_lt_iff_lt_mul (by omega)];rw[Nat.pow_succ] at h;exact h
   have hf:0<f:=by
    rcases Nat.eq_zero_or_pos f with rfl|hf
    ·simp at h;omega
    ·exact hf
   have key:m+n % 128*128 ^ k+n / 128*128 ^ (k+1)=m+n*128 ^ k:=by
    have hdm:=Nat.div_add_mod n 128
    calc m+n % 128*128 ^ k+n / 128*128 ^ (k+1)=m+(128*(n / 128)+n % 128)*128 ^ k:=by rw[Nat.pow_succ,Nat.add_mul];simp only[Nat.mul_assoc,Nat.mul_comm,Nat.mul_left_comm];omega
     _=m+n*128 ^ k:=by rw[hdm]
   have:=yo most f (k+1) (n / 128) (m+n % 128*128 ^ k) t hd hf (λ_=>by omega) (by rw[key];exact hm)
   rw[this,key]
  ·rw[dj (by omega),Jj,H9,rdN]
   have e1:(UInt8.ofNat n).toNat=n:=iG (by omega)
   have hne:decide (UInt8.ofNat n=0/\0<k)=false:=by
    rw[C7]
    rintro⟨h,h2⟩
    have:=IR UInt8.toNat h
    rw[e1] at this
    have:=hk h2
    simp_all
   have e2:n % 128=n:=I9 (by omega)
   have e3:decide (max most 0<((m+n*128 ^ k:Nat):Int))=false:=by rw[C7];omega
   simp only[e1,hne,C8,show decide (128<=n)=false by rw[C7];omega,e2,e3]
theorem BM(most:Int):∀(f k n:Nat) (s:Bs),0<=(rdN most f k n s).1/\(rdN most f k n s).1<=max most 0/\(rdN most f k n s).2.1.length<=s.length
 | 0,k,n,s=>by simp[rdN];omega
 | f+1,k,n,[]=>by simp[rdN];omega
 | f+1,k,n,b::t=>by
  rw[rdN];cases h1:decide (b=0/\0<k) with
  | true=>simp only[D8];simp;omega
  | false=>
   simp only[C8];cases h2:decide (128<=b.toNat) with
   | true=>simp only[D8];have:=BM most f (k+1) (n+b.toNat % 128*128 ^ k) t;refine⟨this.1,this.2.1,by simp;omega⟩
   | false=>
    simp only[C8];cases h3:decide (max most 0<((n+b.toNat % 128*128 ^ k:Nat):Int)) with
    | true=>simp only[D8];simp;omega
    | false=>simp only[C8];rw[C7] at h3;refine⟨oM,oM,sI⟩
theorem xT{n c k:Nat}(h:n<2 ^ k):n ||| (c*2 ^ k)=n+c*2 ^ k:=by have:=Nat.two_pow_add_eq_or_of_lt h c;rw[Nat.or_comm,Nat.mul_comm c,<- this];omega
theorem Em(n:Nat):n &&& 127=n % 128:=Nat.and_two_pow_sub_one_eq_mod n 7
theorem GX{n:Nat}(h:n<256):n ||| 128=n % 128+128:=by
 have h1:n=128*(n / 128)+n % 128:=(Nat.div_add_mod n 128).symm;have h2:n / 128=0\/n / 128=1:=oM;rcases h2 with h2|h2
 ·have h3:n<2 ^ 7:=oM;have:=xT (c:=1) h3;simp at this;rw[this];omega
 ·have h4:=xT (n:=n % 128) (c:=1) (k:=7) oM;simp at h4;have h5:n=n % 128 ||| 128:=by rw[h4];omega
  rw[h5,Nat.or_assoc,Nat.or_self,<- h5];omega
theorem iU{s:Bs}{k:Nat}{b:UInt8}(h:s[k]?=some b)(i:IntKind):ixS (stv s) (.int i k)=some (.int .u8 b.toNat):=by
 have hl:=(E2.1 h).1;have hk:k<(str s).size:=by rw[aq];exact hl
 have h1:(str s)[k]?=some b:=by rw[getElem?_pos (str s) k hk];have h2:(str s)[k]=s[k]:=rfl;rw[h2];rw[C6 hl] at h;exact h
 simp[ixS,h1]
theorem Dl(a k:Nat)(h:a*2 ^ k<=9223372036854775807)(hk:k<=64)(d:TypeDesc)(j:IntKind):aC d .shl (iv a) (.int j k)=some (iv ((a*2 ^ k:Nat):Int)):=by
 have h0:¬((k:Int)<0):=oM;have e:aC d .shl (iv a) (.int j k)=some (iv (IntKind.i64.wrap ((a:Int)*2 ^ (min (k:Int).toNat IntKind.i64.bits)))):=by rw[sf];unfold shV;rw[IT h0]
 rw[e];have e2:min (k:Int).toNat IntKind.i64.bits=k:=by show min (k:Int).toNat 64=k;omega
 rw[e2];have e3:(a:Int)*2 ^ k=((a*2 ^ k:Nat):Int):=by push_cast;rfl
 rw[e3,dI h]
theorem yL(a k:Nat)(hk:k<=64)(d:TypeDesc)(j:IntKind):aC d .shr (iv a) (.int j k)=some (iv ((a / 2 ^ k:Nat):Int)):=by
 have h0:¬((k:Int)<0):=oM;have e:aC d .shr (iv a) (.int j k)=some (iv ((a:Int).fdiv (2 ^ (min (k:Int).toNat IntKind.i64.bits)))):=by rw[jz];unfold shV;rw[IT h0]
 rw[e];have e2:min (k:Int).toNat IntKind.i64.bits=k:=by show min (k:Int).toNat 64=k;omega
 rw[e2];congr 2;rw[Int.fdiv_eq_ediv_of_nonneg _ (by exact Int.pow_nonneg dC)];have:((2:Int) ^ k)=((2 ^ k:Nat):Int):=by push_cast;rfl
 rw[this];rfl
open Go.ChangeShapes Go.WideShapes Go.ChangeAt Go.RowKit
theorem trodAll_below{H:Type}{enc:TypeId×Value->H}{P:Program}(hl:laidOutB P=true){W W':World}(hb:Below W.heap.size W W'):
  ∀{ts:List TypeId} {vs:List Value} {ds:List (DataW H)} {ps:List MemPlace},(∀t∈ts,P.readableRec t=true/\t<P.types.size)->DataW.TrodAll enc P W 0 (λ_=>true) true ts vs ds ps->(∀x∈ps,x.block<W.heap.size) -> DataW.TrodAll enc P W' 0 (λb=>decide (b<W.heap.size)) true ts vs ds ps
 | [],[],[],_,_,h,_=>h
 | t::ts,v::vs,d::ds,ps,hr,h,hlt=>by obtain⟨p,q,h1,h2,rfl⟩:=h;exact⟨p,q,Below.trod hl (hr t sI).1 (hr t sI).2 h1 hb (λx hx=>hlt x (by simp[hx])),trodAll_below hl hb (λt ht=>hr t (by simp[ht])) h2 (λx hx=>hlt x (by simp[hx])),rfl⟩
 | [],_::_,_,_,_,h,_=>by cases h
 | [],[],_::_,_,_,h,_=>by cases h
 | _::_,[],_,_,_,h,_=>by cases h
 | _::_,_::_,[],_,_,h,_=>by cases h
theorem cl_true{P:Program}{g:FuncId}{args:Array Value}{w:World}(h:Cl P g args.toList w λv w'=>v=.bool true/\Fm (λ_=>False) w w'):
  Calls P g args w λe w'=>e=.returned (.bool true)/\Below w.heap.size w w':=by
 have:=h.out;unfold Cl0 at this;simp only[Array.toArray_toList] at this;refine this.mono λe w' he=>?_;cases e with
 | returned v=>exact⟨by rw[he.1],he.2.below⟩
 | panicked c=>exact he.elim
 | outgrown=>exact he.elim
structure LawIn {H : Type} (enc : TypeId × Value → H) (P : Program) (ts : List TypeId) (W : World) (args : List Value) (ds : List (DataW H)) (p : List MemPlace) : Prop where
 trod : DataW.TrodAll enc P W 0 (fun _ => true) true ts args ds p
 ok : ∃ base, ∀ (j : Nat) t v, ts[j]? = some t → args[j]? = some v → Value.okWide P W .any base t v
 sized : (DataW.weightsEach P ts ds).all (· ≤ reachBytes) = true
 lt : ∀ x ∈ p, x.block < W.heap.size
theorem law_lifted{H:Type}{enc:TypeId×Value->H}{C:Checked}{os:Os}{f:FuncId}{fn:Func}{s:ChangeSpec}{conds:List PathCond}{tb:TypeId}(own:ownKnob C.prog.godebug=none)(started:os.Started)(noInit:C.prog.inits.idxOf? f=none)(hfn:C.prog.funcs[f]?=some fn)
  (hlaid:laidOutB C.prog=true)
  (witness:∃(w:World) (tape:Tape) (i:Input),w.os=os/\(w.forCall tape i).Shaped C.prog/\i.vars=[]/\Input.okWide C.prog (w.forCall tape i) .any w.heap.size f i /\
   s.pre6 enc C.prog fn conds false (w.forCall tape i).memory i.args/\({}:Assume).holds C.prog (lone (Frame.enter C.prog f i.args .normal) [] (w.forCall tape i)))
  (hres:fn.resultTypes=#[tb]) (hbool:C.prog.underlying tb=some .bool) (hvars:s.vars=[])
  (hrow:∀t∈fn.params.toList,C.prog.readableRec t=true/\t<C.prog.types.size)
  (hs:∀ds:List (DataW H),ds.length=fn.params.toList.length->s.fn H ds={ results:=[.lit (.bool true)],args:=ds,vars:=[] })
  (law:∀(W:World) (args:List Value) (ds:List (DataW H)) (p:List MemPlace),LawIn enc C.prog fn.params.toList W args ds p->Cl C.prog f args W λv w'=>v=.bool true/\Fm (λ_=>False) W w'):
  ReturnsInHanded {} C os f .any (s.pre6 enc C.prog fn conds false) (s.post enc C.prog fn false true false false):=by
 refine returnsInHanded_of_change_sized own started noInit hfn witness ?_;intro W base args ds gs before hval hW hcnd hsz _;have hW':=hW;obtain⟨p,q,hA,hV,rfl,hfz,hnd⟩:=hW;rw[hvars] at hV;obtain⟨rfl,rfl⟩:=trodVars_none hV;have hty:s.plain.varTypes C.prog=[]:=by simp[DataSpec.varTypes,ChangeSpec.plain,hvars]
 simp only[hty,H1] at hsz;have hlt:∀x∈p,x.block<W.heap.size:=λx hx=>hW'.lt x (by simp[hx]);have hlen:=(trodAll_length hA).2;refine(cl_true (law W args.toList ds p ⟨hA,⟨base,λj t v hj hv=>hval j t v (by simpa using hj) (by simpa using hv)⟩,hsz,hlt⟩)).mono λe W' ⟨he,hb⟩=>?_;subst he;refine⟨_,rfl,ds,[],p++[],[],p,[],hW',?_,?_,?_,hb.frame _,λh=>by cases h⟩
 ·rw[H1,hs ds hlen,hres];exact trodAll_cons_mk (shut_bool hbool _) trodAll_mk0
 ·rw[H1,hs ds hlen];exact trodAll_below hlaid hb hrow hA hlt
 ·rw[H1,hs ds hlen,hvars];trivial
structure Vw (P : Program) (t : TypeId) (α : Type) where
 rel : World → List Value → α → Prop
 keep : ∀ {w w' : World} {cs : List Value} {x : α}, rel w cs x → Fm (fun _ => False) w w' → rel w' cs x
 len : ∀ {w : World} {cs : List Value} {x : α}, rel w cs x → cs.length = P.cellsOf t
 opens : ∀ {H : Type} {enc : TypeId × Value → H} {w : World} {base : Nat} {spare : Nat → Bool} {held : Bool} {fuel : Nat} {cs : List Value} {y : DataW H × List MemPlace},
  DataW.trod enc P w base spare held fuel t cs = some y → (∀ n ∈ y.1.weights P t, n ≤ reachBytes) → ∃ x, rel w cs x
def HC{P:Program}{t:TypeId}(k:IntKind)(ht:P.underlying t=some (.int k))(hc:P.cellsOf t=1):Vw P t Int where
 rel:=λ_ cs x=>cs=[.int k x]/\(Lit.int k x).wf=true
 keep:=λh _=>h
 len:=λh=>by rw[h.1,hc];rfl
 opens:=λh _=>by
  obtain⟨n,h1,h2,h3⟩:=DataW.trod_int ht h
  exact⟨n,h1,h3⟩
def Hm{P:Program}{t:TypeId}(ht:P.underlying t=some .bool)(hc:P.cellsOf t=1):Vw P t Bool where
 rel:=λ_ cs x=>cs=[.bool x]
 keep:=λh _=>h
 len:=λh=>by rw[h,hc];rfl
 opens:=λh _=>by
  obtain⟨n,h1,h2⟩:=DataW.trod_bool ht h
  exact⟨n,h1⟩
def IQ{P:Program}{t:TypeId}(ht:P.underlying t=some .string)(hc:P.cellsOf t=1):Vw P t Bs where
 rel:=λ_ cs x=>cs=[stv x]/\x.length<=reachBytes
 keep:=λh _=>h
 len:=λh=>by rw[h.1,hc];rfl
 opens:=λh hw=>by
  obtain⟨s,h1,h2,_⟩:=DataW.trod_string ht h
  subst h2
  refine⟨s.data.toList,by rw[h1,stv,AV],hw _ (by simp[DataW.weights])⟩
theorem gp{H:Type}{P:Program}{e:TypeId}{d:DataW H}{n:Nat}(hn:n∈d.weights P e):∀{l:List (DataW H)},d∈l->n∈DataW.weightsAll P e l
 | [],h=>by cases h
 | x::l,h=>by
  rw[DataW.weightsAll,H5];rcases H3.1 h with rfl|h
  ·exact .inl hn
  ·exact .inr (gp hn h)
structure SliceAs {P : Program} {e : TypeId} {α : Type} (A : Vw P e α) (w : World) (v : Value) (xs : List α) : Prop where
 ex : ∃ a cap, v = .slice a xs.length cap ∧ xs.length ≤ cap ∧ cap ≤ maxLen ∧ (a = none → xs.length = 0 ∧ cap = 0) ∧
  ∀ i x, xs[i]? = some x → ∃ ad cs', a = some ad ∧ A.rel w cs' x ∧ ∀ j, j < P.cellsOf e → w.cell? (ad.add (i * P.cellsOf e + j)) = cs'[j]?
 small : xs.length * P.bytesOf e ≤ reachBytes
theorem SliceAs.keep{P:Program}{e:TypeId}{α:Type}{A:Vw P e α}{w w':World}{v:Value}{xs:List α}(h:SliceAs A w v xs)(hf:Fm (λ_=>False) w w'):SliceAs A w' v xs:=by obtain⟨⟨a,cap,h1,h2,h3,h4,h5⟩,hs⟩:=h;refine⟨⟨a,cap,h1,h2,h3,h4,λi x hi=>?_⟩,hs⟩;obtain⟨ad,cs',g1,g2,g3⟩:=h5 i x hi;refine⟨ad,cs',g1,A.keep g2 hf,λj hj=>?_⟩;have:=g3 j hj;have hl:=A.len g2;rw[C6 oM] at this ⊢;exact hf.j4 this id
theorem SliceAs.cells{P:Program}{e:TypeId}{α:Type}{A:Vw P e α}{w:World}{v:Value}{xs:List α}(h:SliceAs A w v xs)(hc:P.cellsOf e=1){f:α->Value}(hf:∀cs x,A.rel w cs x->cs=[f x]):CellsAt w v xs.length 1 (xs.map f):=by obtain⟨⟨a,cap,rfl,h1,h2,h3,h4⟩,_⟩:=h;refine⟨⟨a,cap,rfl,h1,h2,h3,λj u hj=>?_⟩,sI⟩;rw[E4,E6] at hj;obtain⟨x,hx,rfl⟩:=hj;obtain⟨ad,cs',g1,g2,g3⟩:=h4 j x hx;refine⟨ad,g1,?_⟩;have:=g3 0 oM;rw[hc,IZ,Jt,hf _ _ g2] at this;exact this
def BT{P:Program}{t e:TypeId}{α:Type}(ht:P.underlying t=some (.slice e))(hc:P.cellsOf t=1)(A:Vw P e α):Vw P t (List α) where
 rel:=λw cs xs=>∃v,cs=[v]/\SliceAs A w v xs
 keep:=λ⟨v,h1,h2⟩ hf=>⟨v,h1,h2.keep hf⟩
 len:=λ⟨v,h1,_⟩=>by rw[h1,hc];rfl
 opens:=λ{H enc w base spare held fuel cs y} h hw=>by
  rcases Deep.open_slice ht h with⟨rfl,rfl⟩|⟨a,len,cap,m,n,D,Pl,rfl,_,hl,hcap,hm,rfl,hx⟩
  ·exact⟨[],_,rfl,⟨none,0,rfl,by simp,by simp[maxLen],λ_=>⟨rfl,rfl⟩,λi x hi=>by simp at hi⟩,by simp⟩
  ·have hlm:len<=m:=by rw[hm];split<;>omega
   have hwt:∀i,i<len->∀q∈(D i).weights P e,q<=reachBytes:=λi hi q hq=>hw q (by
    simp only[DataW.weights,ht,H3,H5]
    exact .inr (.inl (gp hq (E8.2 ⟨i,by simpa using hi,rfl⟩))))
   have hsm:len*P.bytesOf e<=reachBytes:=by
    have:=hw ((((List.range len).map D).length+((List.range (m - len)).map λj=>D (len+j)).length)*P.bytesOf e) (by simp[DataW.weights,ht])
    refine F8 (Kc _ ?_) this
    simp
   have key:∀i,i<len->∃x:α×List Value,A.rel w x.2 x.1/\∀j,j<P.cellsOf e->w.cell? (a.add (i*P.cellsOf e+j))=x.2[j]? := by
    intro i hi
    obtain⟨cs',h1,h2⟩:=hx i (by omega)
    obtain⟨_,hlen,hat⟩:=World.cells?_some h1
    obtain⟨x,hxr⟩:=A.opens h2 (hwt i hi)
    exact⟨(x,cs'),hxr,λj hj=>by rw[<- jP,hat j hj]⟩
   refine⟨List.ofFn (n:=len) (λi=>(Classical.choose (key i i.2)).1),_,rfl,⟨some a,cap,by simp,by simpa using hl,hcap,λe=>by simp at e,λi x hi=>?_⟩,by simpa using hsm⟩
   rw[List.getElem?_ofFn] at hi
   split at hi
   ·rename_i hi1
    simp only[H4] at hi
    subst hi
    have hk:=Classical.choose_spec (key i hi1)
    exact⟨a,_,rfl,hk.1,hk.2⟩
   ·cases hi
structure Fv (P : Program) (fs : List Field) (o : Nat) (α : Type) where
 c : Nat
 rel : World → List Value → α → Prop
 keep : ∀ {w w' : World} {cs : List Value} {x : α}, rel w cs x → Fm (fun _ => False) w w' → rel w' cs x
 len : ∀ {w : World} {cs : List Value} {x : α}, rel w cs x → cs.length = c
 opens : ∀ {H : Type} {enc : TypeId × Value → H} {w : World} {base : Nat} {spare : Nat → Bool} {held : Bool} {n : Nat} {cs0 : List Value} {ys : List (DataW H × List MemPlace)},
  (∀ (i : Nat) (f : Field), fs[i]? = some f → DataW.trod enc P w base spare held n f.type ((cs0.drop f.offset).take (P.cellsOf f.type)) = ys[i]?) → ys.length = fs.length →
  (∀ (i : Nat) (f : Field) (y : DataW H × List MemPlace), fs[i]? = some f → ys[i]? = some y → ∀ n ∈ y.1.weights P f.type, n ≤ reachBytes) → ∃ x, rel w ((cs0.drop o).take c) x
def DH{P:Program}{t:TypeId}{fs:Array Field}{α:Type}(ht:P.underlying t=some (.struct fs))(F:Fv P fs.toList 0 α)(hc:P.cellsOf t=F.c):Vw P t α where
 rel:=F.rel
 keep:=F.keep
 len:=λh=>by rw[hc];exact F.len h
 opens:=λ{H enc w base spare held fuel cs y} h hw=>by
  obtain⟨xs,n,_,rfl,hl,hlen,hf⟩:=DataW.trod_struct ht h
  obtain⟨x,hx⟩:=F.opens (enc:=enc) (w:=w) (base:=base) (spare:=spare) (held:=held) (n:=n) (cs0:=cs) (ys:=xs) (λi f hi=>hf i f (by simpa using hi)) (by simpa using hlen) (λi f y hi hy q hq=>hw q (by
   simp only[DataW.weights,ht]
   exact DataW.weights_mem_each (j:=i) (t:=f.type) (d:=y.1) (by rw[E4,hi];rfl) (by rw[E4,hy];rfl) q hq))
  refine⟨x,?_⟩
  have:(cs.drop 0).take F.c=cs:=by rw[J6,G0 (by omega)]
  rw[this] at hx;exact hx
theorem LawIn.arg{H:Type}{enc:TypeId×Value->H}{P:Program}{ts:List TypeId}{W:World}{args:List Value}{ds:List (DataW H)}{p:List MemPlace}(h:LawIn enc P ts W args ds p){j:Nat}{t:TypeId}(ht:ts[j]?=some t){α:Type}(A:Vw P t α):
  ∃v x base,args[j]?=some v/\A.rel W v.cells.toList x/\Value.okWide P W .any base t v:=by
 obtain⟨hA,⟨base,hval⟩,hsz,-⟩:=h;have hw:∀(j:Nat) (t:TypeId) (d:DataW H),ts[j]?=some t->ds[j]?=some d->∀n∈d.weights P t,n<=reachBytes:=λj t d h1 h2 n hn=>by have:=G8.1 hsz _ (DataW.weights_mem_each h1 h2 n hn);simpa using this
 have key:∀(ts:List TypeId) (vs:List Value) (ds:List (DataW H)) (p:List MemPlace),DataW.TrodAll enc P W 0 (λ_=>true) true ts vs ds p->∀(j:Nat) (t:TypeId),ts[j]?=some t->∃(v:Value) (d:DataW H) (q:List MemPlace),vs[j]?=some v/\ds[j]?=some d/\DataW.Trod enc P W 0 (λ_=>true) true t v d q:=by
  intro ts;induction ts with
  | nil=>intro vs ds p _ j t ht;simp at ht
  | cons t0 ts ih=>
   intro vs ds p hA j t ht;obtain⟨v0,vs0,d0,ds0,p0,q0,rfl,rfl,rfl,h0,r0⟩:=trodAll_cons hA;cases j with
   | zero=>simp at ht;subst ht;exact⟨v0,d0,p0,rfl,rfl,h0⟩
   | succ j=>obtain⟨v,d,q,h1,h2,h3⟩:=ih vs0 ds0 q0 r0 j t (by simpa using ht);exact⟨v,d,q,by simpa using h1,by simpa using h2,h3⟩
 obtain⟨v,d,q,h1,h2,fuel,h3⟩:=key ts args ds p hA j t ht;obtain⟨x,hx⟩:=A.opens h3 (hw j t d ht h2);exact⟨v,x,base,h1,hx,hval j t v ht h1⟩
theorem LawIn.len{H:Type}{enc:TypeId×Value->H}{P:Program}{ts:List TypeId}{W:World}{args:List Value}{ds:List (DataW H)}{p:List MemPlace}(h:LawIn enc P ts W args ds p):args.length=ts.length:=(trodAll_length h.trod).1
theorem arg_int{P:Program}{W:World}{base:Nat}{t:TypeId}{k:IntKind}{ht:P.underlying t=some (.int k)}{hc:P.cellsOf t=1}{v:Value}{x:Int}(h:(HC k ht hc).rel W v.cells.toList x)(hv:Value.okWide P W .any base t v):v=.int k x/\(Lit.int k x).wf=true:=by obtain⟨n,rfl⟩:=okWide_int ht hv;obtain⟨h1,h2⟩:=h;simp[Value.cells] at h1;exact⟨by rw[h1],h2⟩
theorem arg_bool{P:Program}{W:World}{base:Nat}{t:TypeId}{ht:P.underlying t=some .bool}{hc:P.cellsOf t=1}{v:Value}{x:Bool}(h:(Hm ht hc).rel W v.cells.toList x)(hv:Value.okWide P W .any base t v):v=.bool x:=by obtain⟨n,rfl⟩:=okWide_bool ht hv;have h1:(Value.bool n).cells.toList=[.bool x]:=h;simp[Value.cells] at h1;rw[h1]
theorem arg_str{P:Program}{W:World}{base:Nat}{t:TypeId}{ht:P.underlying t=some .string}{hc:P.cellsOf t=1}{v:Value}{x:Bs}(h:(IQ ht hc).rel W v.cells.toList x)(hv:Value.okWide P W .any base t v):v=stv x/\x.length<=reachBytes:=by obtain⟨n,rfl⟩:=okWide_string ht hv;obtain⟨h1,h2⟩:=h;simp[Value.cells] at h1;exact⟨by rw[stv,h1],h2⟩
theorem arg_slice{P:Program}{W:World}{base:Nat}{t e:TypeId}{α:Type}{ht:P.underlying t=some (.slice e)}{hc:P.cellsOf t=1}{A:Vw P e α}{v:Value}{x:List α}(h:(BT ht hc A).rel W v.cells.toList x)(hv:Value.okWide P W .any base t v):SliceAs A W v x:=by obtain⟨a,n,c,rfl⟩:=okWide_slice ht hv;obtain⟨u,h1,h2⟩:=h;simp[Value.cells] at h1;rw[h1];exact h2
theorem arg_struct{P:Program}{W:World}{base:Nat}{t:TypeId}{fs:Array Field}{α:Type}{ht:P.underlying t=some (.struct fs)}{F:Fv P fs.toList 0 α}{hc:P.cellsOf t=F.c}{v:Value}{x:α}(h:(DH ht F hc).rel W v.cells.toList x)(hv:Value.okWide P W .any base t v):∃cs,v=.agg cs/\F.rel W cs.toList x:=by obtain⟨cs,rfl,_⟩:=okWide_struct ht hv;exact⟨cs,rfl,h⟩
theorem cP{w:World}{b:Nat}{cs:Array Value}{t:TypeId}{fz:Nat×Nat}(h:w.heap[b]?=some (.cells cs t fz)){o n:Nat}{us:Array Value}(hn:o+n<=cs.size)(he:(cs.toList.drop o).take n=us.toList):aI w ⟨b,o,none⟩ n=some (.agg us):=by
 have key:∀(k i:Nat),o+i+k<=cs.size->bC w ⟨b,o,none⟩ i k=some ((cs.toList.drop (o+i)).take k):=by
  intro k;induction k with
  | zero=>intro i hi;simp[bC]
  | succ k ih=>
   intro i hi;have hlt:o+i<cs.toList.length:=by rw[I8];omega
   have hc:w.cell? ((⟨b,o,none⟩:Addr).add i)=some (cs.toList[o+i]):=by rw[aA,ab h];simp
   simp only[bC,hc,ih (i+1) oM,I2];rw[Jo hlt,List.take_succ_cons];rfl
 unfold aI;rw[key n 0 oM];simp only[Jt,he,I2]
theorem pA{w:World}{e:TypeId}{l:List Value}(hl:l.length<=maxLen){base:Nat}(hb:base<=w.heap.size):(w.alloc (.cells l.toArray e)).ownsRow base e 1 (.slice (some ⟨w.heap.size,0,none⟩) l.length l.length) l.length l:=⟨sI,.inr ⟨w.heap.size,l.length,l.toArray,rfl,hb,ay _ _,D9 _,hl,sI,sI⟩⟩
theorem cC{P:Program}{t e:TypeId}{sz bytes:Nat}(E:ElemT P t e sz bytes)(hsz:0<sz){w:World}{base:Nat}{v u:Value}{n m:Nat}{xs news:List Value}(h:w.ownsRow base e sz v n xs)(hu:CellsAt w u m sz news)(h1:∀u∈news,u.oneCell'=true)(ty:TypeId)
  (h63:n+m<=maxLen) (hbytes:(n+m)*bytes<=140737488355328) (hbase:base<=w.heap.size):
  ∃v' w',(Builtin.append_ #[t,t] ty #[v,u]).run P w=.ok v' w'/\w'.ownsRow base e sz v' (n+m) (xs++news)/\Fm (λb=>v.ownBlock=some b) w w':=by
 obtain⟨i,z,hi,hz,hs,hb,hzs⟩:=E.info;obtain⟨⟨a,c,rfl,hn1,hn2,h3,h4⟩,hl⟩:=hu;cases a with
 | some ad=>obtain⟨v',w',hr,ho,hg,hn⟩:=run_append_own (P:=P) w base t ty e i z sz bytes E.sl hi hz hs hb hzs hsz v n xs h ad m c news hl (λj x hj=>by obtain⟨ad',e,hc⟩:=h4 j x hj;cases e;exact hc) h1 h63 hbytes hbase;exact⟨v',w',hr,ho,Fm.grown (S:=λb=>v.ownBlock=some b) hg (λk hk _=>hk)⟩
 | none=>obtain⟨rfl,rfl⟩:=h3 rfl;rw[JX] at hl;obtain rfl:=H0 hl;exact⟨v,w,run_append_owned_none (P:=P) (w:=w) base t ty e i sz E.sl hi v n xs h,by simpa using h,Fm.refl _ _⟩
abbrev uv(n:Nat):Value:=Value.int .u32 n
abbrev qv(n:Nat):Value:=Value.int .u64 n
theorem bN(k j:IntKind)(n:Int):cvI k (.int j n)=some (.int k (k.wrap n)):=rfl
theorem jM{n:Nat}(h:n<2 ^ 32):IntKind.u32.wrap (n:Int)=n:=by unfold IntKind.wrap;simp[IntKind.bits,IntKind.signed];omega
theorem eK{n:Nat}(h:n<2 ^ 64):IntKind.u64.wrap (n:Int)=n:=by unfold IntKind.wrap;simp[IntKind.bits,IntKind.signed];omega
theorem qi(n:Nat):IntKind.u64.wrap (n:Int)=((n % 2 ^ 64:Nat):Int):=by unfold IntKind.wrap;simp[IntKind.bits,IntKind.signed]
theorem lD(n:Nat):IntKind.u8.wrap (n:Int)=((n % 256:Nat):Int):=by unfold IntKind.wrap;simp[IntKind.bits,IntKind.signed]
theorem nY(d:TypeDesc){a b:Nat}(ha:a<2 ^ 32)(hb:b<2 ^ 32):aC d .xor (uv a) (uv b)=some (uv (a ^^^ b)):=by have:aC d .xor (uv a) (uv b)=some (.int .u32 (IntKind.u32.wrap ((BitVec.ofInt 32 (a:Int)) ^^^ (BitVec.ofInt 32 (b:Int))).toNat)):=rfl;rw[this,BitVec.toNat_xor,aY 32 a ha,aY 32 b hb,jM (Ki ha hb)]
theorem vJ(d:TypeDesc){a b:Nat}(ha:a<2 ^ 32)(hb:b<2 ^ 32):aC d .and (uv a) (uv b)=some (uv (a &&& b)):=by have:aC d .and (uv a) (uv b)=some (.int .u32 (IntKind.u32.wrap ((BitVec.ofInt 32 (a:Int)) &&& (BitVec.ofInt 32 (b:Int))).toNat)):=rfl;rw[this,BitVec.toNat_and,aY 32 a ha,aY 32 b hb,jM (Nat.lt_of_le_of_lt Nat.and_le_left ha)]
theorem CR{a:Nat}(ha:a<2 ^ 32):unV .xor (uv a)=some (uv (a ^^^ 4294967295)):=by have:unV .xor (uv a)=some (.int .u32 (IntKind.u32.wrap ((BitVec.ofInt 32 (4294967295:Nat)) ^^^ (BitVec.ofInt 32 (a:Int))).toNat)):=rfl;rw[this,BitVec.toNat_xor,aY 32 a ha,aY 32 4294967295 oM,Nat.xor_comm,jM (Ki ha oM)]
theorem yM(d:TypeDesc){a k:Nat}(hk:k<=32)(j:IntKind){b:Int}(hb:b=(k:Int)):aC d .shr (uv a) (.int j b)=some (uv (a / 2 ^ k)):=by
 subst hb;have h0:¬((k:Int)<0):=oM;have e:aC d .shr (uv a) (.int j k)=some (.int .u32 ((a:Int).fdiv (2 ^ (min (k:Int).toNat IntKind.u32.bits)))):=by rw[jz];unfold shV;rw[IT h0]
 rw[e];have e2:min (k:Int).toNat IntKind.u32.bits=k:=by show min (k:Int).toNat 32=k;omega
 rw[e2];congr 2;rw[Int.fdiv_eq_ediv_of_nonneg _ (by exact Int.pow_nonneg dC)];have:((2:Int) ^ k)=((2 ^ k:Nat):Int):=by push_cast;rfl
 rw[this];rfl
theorem Dn(d:TypeDesc)(a:Nat)(j:IntKind):aC d .shl (qv a) (.int j 8)=some (qv (a*256 % 2 ^ 64)):=by have e:aC d .shl (qv a) (.int j 8)=some (.int .u64 (IntKind.u64.wrap ((a:Int)*2 ^ 8))):=rfl;rw[e,(oM:(a:Int)*2 ^ 8=((a*256:Nat):Int)),qi]
theorem Fc(d:TypeDesc){a b:Nat}(ha:a<2 ^ 64)(hb:b<256)(hz:a % 256=0):aC d .or (qv a) (qv b)=some (qv (a+b)):=by
 have:aC d .or (qv a) (qv b)=some (.int .u64 (IntKind.u64.wrap ((BitVec.ofInt 64 (a:Int)) ||| (BitVec.ofInt 64 (b:Int))).toNat)):=rfl;rw[this,BitVec.toNat_or,aY 64 a ha,aY 64 b oM];have e:a ||| b=a+b:=by have:=Nat.two_pow_add_eq_or_of_lt (i:=8) (b:=b) oM (a / 256);have h2:2 ^ 8*(a / 256)=a:=oM;rw[h2] at this;exact this.symm
 rw[e,eK oM]
theorem DD(d:TypeDesc){a:Nat}(ha:a<2 ^ 64):aC d .andNot (qv a) (.int .u64 9223372036854775808)=some (qv (a % 2 ^ 63)):=by
 have:aC d .andNot (qv a) (.int .u64 9223372036854775808)=some (.int .u64 (IntKind.u64.wrap ((BitVec.ofInt 64 (a:Int)) &&& ~~~ (BitVec.ofInt 64 ((2 ^ 63:Nat):Int))).toNat)):=rfl;rw[this,BitVec.toNat_and,BitVec.toNat_not,aY 64 a ha,aY 64 (2 ^ 63) oM];have e:a &&& (2 ^ 64 - 1 - 2 ^ 63)=a % 2 ^ 63:=by have:2 ^ 64 - 1 - 2 ^ 63=2 ^ 63 - 1:=oM;rw[this];exact Nat.and_two_pow_sub_one_eq_mod a 63
 rw[e,eK oM]
theorem vQ:∀(k n i:Nat),i<k->(beN k n)[i]?=some (UInt8.ofNat (n / 256 ^ (k - 1 - i) % 256))
 | 0,_,_,h=>by omega
 | k+1,n,i,h=>by
  rw[beN];by_cases hi:i<k
  ·rw[Jb (by rw[aH];exact hi),vQ k _ i hi];congr 3;rw[Nat.div_div_eq_div_mul,<- Nat.pow_succ'];congr 2;omega
  ·obtain rfl:i=k:=oM;rw[I1 (by rw[aH];exact D9 _),aH];simp
def eV(n w:Int):Bs:=bif decide (w<1)||decide (8<w)||decide (n<0) then[] else beN w.toNat n.toNat
theorem ej{n w:Nat}(h1:1<=w)(h8:w<=8):eV (n:Int) (w:Int)=beN w n:=by unfold eV;rw[show(decide ((w:Int)<1)||decide (8<(w:Int))||decide ((n:Int)<0))=false by simp;omega];simp
def BH(l:Bs):Nat:=l.foldl (λn b=>(n*256+b.toNat) % 2 ^ 64) 0
theorem xR(l:Bs):BH l=ofB l % 2 ^ 64:=by
 have key:∀(l:Bs) (a b:Nat),a=b % 2 ^ 64->l.foldl (λn b=>(n*256+b.toNat) % 2 ^ 64) a=l.foldl (λn b=>n*256+b.toNat) b % 2 ^ 64:=by
  intro l;induction l with
  | nil=>intro a b h;exact h
  | cons x l ih=>intro a b h;refine ih _ _ ?_;show(a*256+x.toNat) % 2 ^ 64=(b*256+x.toNat) % 2 ^ 64;omega
 exact key l 0 0 sI
def ofN(l:Bs):Nat:=ofB l % 2 ^ 63
theorem dX{l:Bs}(h:l.length<=7):ofN l=ofB l:=by have:=py l.length l rfl;have h2:256 ^ l.length<=256 ^ 7:=Nat.pow_le_pow_right oM h;unfold ofN;exact I9 oM
theorem lr(P:Program)(g o:Nat)(t:TypeId)(fz:Nat×Nat):∀(vs:List Value) (i:Nat) (cur:Array Value) (w:World),w.heap[g]?=some (.cells cur t fz)->(fz=(0,0)\/cur.size<=fz.1)->o+i+vs.length<=cur.size->(∀v∈vs,v.oneCell'=true) ->
  (storeCells ⟨g,o,none⟩ vs i).run P w=.ok () (w.setRow g (cur.toList.take (o+i)++vs++cur.toList.drop (o+i+vs.length)).toArray)
 | [],i,cur,w,hg,_,_,_=>by
  simp only[storeCells,H1,Ja,Jt,JM,Array.toArray_toList];rw[setRow_self w g cur t fz hg]
  rfl
 | v::lG,i,cur,w,hg,hfz,hl,h1=>by
  have hi:o+i<cur.size:=by simp at hl;omega
  have hadd:(⟨g,o,none⟩:Addr).add i=⟨g,o+i,none⟩:=by unfold Addr.add;split<;>simp_all
  have hcell:w.cell? ⟨g,o+i,none⟩=some cur[o+i]:=by simp[World.cell?,hg,hi]
  have hfro:w.frozen? ⟨g,o+i,none⟩=false:=by
   obtain⟨lo,hi'⟩:=fz;simp only[World.frozen?,hg,Bool.and_eq_false_iff,C7];rcases hfz with h|h
   ·cases h;right;omega
   ·left;simp only at h;omega
  have hst:(store ((⟨g,o,none⟩:Addr).add i) v).run P w=.ok () (w.setRow g (cur.setIfInBounds (o+i) v)):=by rw[hadd,run_store P w _ v _ (h1 v sI),hcell];simp[hfro,setCell_eq_setRow w g (o+i) cur t fz v hg]
  have ih:=lr P g o t fz lG (i+1) (cur.setIfInBounds (o+i) v) (w.setRow g (cur.setIfInBounds (o+i) v)) (setRow_heap w g cur _ t _ hg) (by simpa using hfz) (by simp at hl ⊢;omega) (λx hx=>h1 x (by simp[hx]));simp only[storeCells,Sem.run_bind,hst,Result.andThen_ok,ih,setRow_setRow];congr 3;have e:=list_seg_step cur.toList (o+i) v lG (by simp at hl ⊢;omega);simpa[Jy,Nat.add_assoc] using e
def KpAt(w:World)(e:TypeId)(v:Value)(B:Bs):Prop:=(v=.slice none 0 0/\B=[])\/∃g cap cur,v=.slice (some ⟨g,0,none⟩) B.length cap/\w.heap[g]?=some (.cells cur e)/\B.length<=cap/\cap<=maxLen/\cap<=cur.size/\cur.toList.take B.length=bc B
theorem KpAt.nil(w:World)(e:TypeId):KpAt w e (.slice none 0 0) []:=.inl ⟨rfl,rfl⟩
theorem KpAt.aT{w:World}{base:Nat}{e:TypeId}{v:Value}{B:Bs}{n:Nat}(h:w.ownsRow base e 1 v n (bc B)):KpAt w e v B:=by
 have hl:=h.1;rw[bU,IZ] at hl;subst hl;rcases h.2 with⟨rfl,h0⟩|⟨g,cap,cur,rfl,_,hg,hn,hc,hs,ht⟩
 ·exact .inl ⟨rfl,H0 h0⟩
 ·rw[IZ] at hs ht;exact .inr ⟨g,cap,cur,rfl,hg,hn,hc,oM,ht⟩
theorem KpAt.keep{S:Nat->Prop}{w w':World}{e:TypeId}{v:Value}{B:Bs}(h:KpAt w e v B)(hf:Fm S w w')(hs:∀y,v.ownBlock=some y->¬S y):KpAt w' e v B:=by
 rcases h with h|⟨g,cap,cur,rfl,hg,h⟩
 ·exact .inl h
 ·exact .inr ⟨g,cap,cur,rfl,hf.heap hg (hs g rfl),h⟩
theorem KpAt.lt{w:World}{e:TypeId}{v:Value}{B:Bs}(h:KpAt w e v B):∀y,v.ownBlock=some y->y<w.heap.size:=by
 intro y hy;rcases h with⟨rfl,_⟩|⟨g,cap,cur,rfl,hg,h⟩
 ·cases hy
 ·cases hy;exact aj hg
theorem KpAt.one{w:World}{e:TypeId}{v:Value}{B:Bs}(h:KpAt w e v B):v.oneCell'=true:=by rcases h with⟨rfl,_⟩|⟨g,cap,cur,rfl,hg,h⟩<;>rfl
theorem KpAt.lenV{w:World}{e:TypeId}{v:Value}{B:Bs}(h:KpAt w e v B):lenV v=some (.int .i64 B.length):=by rcases h with⟨rfl,rfl⟩|⟨g,cap,cur,rfl,hg,h⟩<;>rfl
theorem KpAt.A9{w:World}{e t:TypeId}{v:Value}{B:Bs}(h:KpAt w e v B){x:Nat}{cs:Array Value}{fz:Nat×Nat}(hx:w.heap[x]?=some (.cells cs t fz))(hne:e≠t):v.ownBlock≠some x:=by
 intro hk;rcases h with⟨rfl,_⟩|⟨g,cap,cur,rfl,hg,h⟩
 ·cases hk
 ·cases hk;rw[hx] at hg;cases hg;exact hne rfl
theorem KpAt.B9{w:World}{e:TypeId}{v:Value}{B:Bs}(h:KpAt w e v B){x:Nat}{es:Array MapEntry}{c:Nat}(hx:w.heap[x]?=some (.map es c)):v.ownBlock≠some x:=by
 intro hk;rcases h with⟨rfl,_⟩|⟨g,cap,cur,rfl,hg,h⟩
 ·cases hk
 ·cases hk;rw[hx] at hg;cases hg
theorem KpAt.app{P:Program}{t e s:TypeId}(B:ByteT P t e s){w:World}{v:Value}{L:Bs}(h:KpAt w e v L)(x:Bs)(ty:TypeId)(hl:L.length+x.length<=100000000000):
  ∃v' w',(Builtin.append_ #[t,s] ty #[v,stv x]).run P w=.ok v' w'/\KpAt w' e v' (L++x)/\Fm (λy=>v.ownBlock=some y) w w'/\(∀y,v'.ownBlock=some y->v.ownBlock=some y\/w.heap.size<=y):=by
 rcases h with⟨rfl,rfl⟩|⟨g,cap,cur,rfl,hg,hnc,hcm,hcs,htake⟩
 ·obtain⟨v',w',hr,ho,hf,_⟩:=gr B (n:=0) (l:=[]) (World.ownsRow_nil w w.heap.size e 1) x ty (by simp at hl;omega) (D9 _);refine⟨v',w',hr,KpAt.aT ho,hf,λy hy=>.inr ?_⟩;rcases ho.2 with⟨rfl,_⟩|⟨g,cap,cur,rfl,hb,_⟩
  ·cases hy
  ·cases hy;exact hb
 obtain⟨i,h1,h2,h3,h4⟩:=B.info;have hsx:Lib.strCells (str x)=bc x:=rfl;have hxz:(str x).size=x.length:=aq x;by_cases hroom:L.length+x.length<=cap
 ·have hf:=Lib.run_firstCells_string (P:=P) w 1 (str x);rw[hsx,hxz] at hf;have hst:=lr P g L.length e (0,0) (bc x) 0 cur w hg (.inl rfl) (by rw[bU];omega) (Ep x);simp only[Jt,bU] at hst;have hr:(Builtin.append_ #[t,s] ty #[.slice (some ⟨g,0,none⟩) L.length cap,stv x]).run P w=.ok (.slice (some ⟨g,0,none⟩) (L.length+x.length) cap) (w.setRow g (cur.toList.take L.length++bc x++cur.toList.drop (L.length+x.length)).toArray):=by simp[Builtin.append_,an B.sl,an B.st,sizeOf,typeInfo,h1,h3,Builtin.lenOf,aq,hroom,hf,Addr.add_lit,hst]
  refine⟨_,_,hr,.inr ⟨g,cap,_,by rw[C5],setRow_heap w g cur _ e _ hg,by rw[C5];exact hroom,hcm,?_,?_⟩,⟨rfl,rfl,rfl,sI,λk _ hk=>setRow_other w g k _ (λe=>hk (by rw[e];rfl))⟩,λy hy=>.inl hy⟩
  ·simp only[I7,C5,E5,G4,I8,bU];omega
  ·rw[htake,<- dp,IU (by rw[bU];exact D9 _),G0 (by rw[bU];exact D9 _)]
 ·have holds:∀j u,(bc L)[j]?=some u->w.cell? ((⟨g,0,none⟩:Addr).add j)=some u:=by
   intro j u hj;rw[<- htake,Jz] at hj;split at hj
   ·rw[Addr.add_lit,ab hg];simpa using hj
   ·cases hj
  have hr:=Lib.run_append_grow_string (P:=P) w t s ty e i (.int .u8 0) B.sl B.st h1 h2 ⟨g,0,none⟩ L.length cap (bc L) (by rw[bU,h3,IZ]) holds (str x) (by rw[hxz];omega) (by rw[hxz];omega) (by rw[hxz,h4];exact growslice_fits oM oM);rw[hxz,hsx] at hr;have hge:=grownCap_ge w (L.length+x.length) cap e;have hcm':grownCap w (L.length+x.length) cap e<=maxLen:=grownCap_le_maxLen w (L.length+x.length) cap e (by unfold maxLen;omega);refine⟨_,_,hr,.inr ⟨w.heap.size,_,_,by rw[C5],ay w.drew _,by rw[C5];exact hge,hcm',?_,?_⟩,⟨rfl,rfl,rfl,sI,λk hk _=>(Fm.alloc (λ_=>False) w.drew _).block k hk id⟩,λy hy=>.inr (by cases hy;exact D9 _)⟩
  ·have hz1:(Value.int .u8 0).cells.size=1:=rfl;simp only[Array.size_append,I7,size_zeroCells,hz1,bU];omega
  ·simp only[Array.toList_append,G7];rw[<- G7,<- dp,IU (by rw[bU];exact D9 _),G0 (by rw[bU];exact D9 _)]
theorem KpAt.cut{P:Program}{t e s:TypeId}(B:ByteT P t e s){w:World}{v:Value}{L:Bs}{e':TypeId}(h:KpAt w e' v L){i j:Nat}(hij:i<=j)(hj:j<=L.length):
  ∃u,slV 1 v (some (.int .i64 i)) (some (.int .i64 j)) none=some u/\(convert t s u).run P w=.ok (stv ((L.drop i).take (j - i))) w:=by
 rcases h with⟨rfl,rfl⟩|⟨g,cap,cur,rfl,hg,hnc,hcm,hcs,htake⟩
 ·simp at hj;subst hj;obtain rfl:i=0:=oM;exact⟨.slice none 0 0,rfl,nn B w 0 0⟩
 ·obtain⟨o',h1,h2,h3,_⟩:=ti (g:=g) (o:=0) (n:=L.length) (c:=cap) hij oM .i64 .i64;refine⟨_,h1,?_⟩;have hx:BX w g e' L:=⟨cur,_,hg,htake,oM,.inl rfl⟩;by_cases hi:i<cap
  ·rw[h2 hi,E7];exact hx.conv B oM _
  ·have:j - i=0:=oM;rw[this];have:=hx.conv (P:=P) B (o:=o') (n:=0) oM (cap - i)
   rw[List.take_zero] at this ⊢;exact this
end Go.Al
namespace Go.Proofs.YtmdmffeoehfjgaaGreatDoor
open Go.Al Go.Proofs Go.Proofs.Tryz
variable{k:KV}{w:World}{a b c d e f g i:Value}
theorem pr:prog.follows .mixedOrders=true:=kR
theorem cE{f:FuncId}{fn:Func}{l:List Value}{w:World}{k:KV}{T:Prop}(hf:prog.funcs[f]?=some fn)(h:T)(lv:Nat->List Nat:=L0)(jn:Nat->Option (List Nat):=J0)(hb:fn.body.isSome=true:=by kernel_rfl)(hn:Nat.ble l.length fn.ntmps=true:=by kernel_rfl)(he:K KD prog fn.ntmps lv jn (fn.body.getD .skip) (Df prog fn k) (oa l) w=T:=by kernel_rfl):Cl prog f l w k:=cE0 rT pr lv jn hf hb hn he h
theorem c26 (h:
 Bf (.pointer 101) .eql a np
 (k nl w)
 (LF 1 a w λt4 w5=>
 Cl prog 74 [t4] w5 λt6 w7=>
 Cl prog 73 [t6] w7 λt8 w9=>
 k t8 w9)):Cl prog 26 [a] w k:=cE func26 h
theorem c59 (h:
 Bf (.pointer 101) .eql a np
 (k (iv 0) w)
 (LF 0 a w λt4 w5=>
 Pu (lenV t4) λt6=>
 Pu (bI .quo t6 (iv 64)) λt7=>
 k t7 w5)):Cl prog 59 [a] w k:=cE func59 h
theorem c75 (h:
 Pu (aC (.pointer 101) .neq a np) λt1=>
 GdG (isB true t1) (λkk=>LF 3 a w kk) w λ_ t4 w5=>
 Pu (aL t1 t4 (.bool false)) λt6=>
 k t6 w5):Cl prog 75 [a] w k:=cE func75 h
theorem c103 (h:
 Cl prog 101 [a,b] w λt1 w2=>
 Pu (bI .geq t1 (iv 0)) λt3=>
 k t3 w2):Cl prog 103 [a,b] w k:=cE func103 h
theorem c145 (h:
 Bf (.pointer 101) .eql a np
 (k (iv 2) w)
 (LF 3 a w λt4 w5=>
 IfB t4
 (k (iv 5) w5)
 (k (iv 0) w5))):Cl prog 145 [a] w k:=cE func145 h
theorem c149 (h:
 Cl prog 244 [a,b] w λt1 w2=>
 k t1 w2):Cl prog 149 [a,b] w k:=cE func149 h
theorem c166 (h:
 Pu (bI .mul a (iv 54)) λt1=>
 Pu (bI .add t1 (iv 1)) λt2=>
 k t2 w):Cl prog 166 [a] w k:=cE func166 h
theorem c167 (h:
 Pu (bI .sub a (iv 1)) λt1=>
 Pu (bI .quo t1 (iv 54)) λt2=>
 k t2 w):Cl prog 167 [a] w k:=cE func167 h
theorem c184 (h:
 Bf (.pointer 207) .eql a np
 (k (iv 0) w)
 (LF 6 a w λt4 w5=>
 k t4 w5)):Cl prog 184 [a] w k:=cE func184 h
theorem c232 (h:
 Bf (.slice 9) .eql a nl
 (k nl w)
 (RunS prog (Instr.buildSlice 66 0 #[]) w λt2 w3=>
 RunS prog (Builtin.append_ #[66,66] 66 #[t2,a]) w3 λt4 w5=>
 k t4 w5)):Cl prog 232 [a] w k:=cE func232 h
theorem c247 (h:
 RunS prog (Instr.build 391 #[]) w λt1 w2=>
 New (Value.cells t1) 391 w2 λt3 w4=>
 k t3 w4):Cl prog 247 [] w k:=cE func247 h
theorem c249 (h:
 Bf (.pointer 391) .eql a np
 (k es w)
 (LF 0 a w λt4 w5=>
 RunS prog (convert 57 9 t4) w5 λt6 w7=>
 k t6 w7)):Cl prog 249 [a] w k:=cE func249 h
theorem c255 (h:
 LF 1 a w.drew λt3 w4=>
 w4=w.drew /\
 LF 2 a w.drew λt7 w8=>
 w8=w.drew /\
 Pu (bI .rem b t7) λt9=>
 Pu (bI .add t3 t9) λt10=>
 k t10 w.drew):Cl prog 255 [a,b] w k:=cE func255 h
theorem c286 (h:
 RunS prog (Instr.build 411 #[(0,a)]) w λt1 w2=>
 New (Value.cells t1) 411 w2 λt3 w4=>
 k t3 w4):Cl prog 286 [a] w k:=cE func286 h
theorem c298 (h:
 Bf (.pointer 281) .eql a np
 (k (.bool false) w)
 (LF 5 a w λt4 w5=>
 RunS prog (Instr.lookup 275 t4 b true) w5 λt6 w7=>
 X2 t6 λt8 t9=>
 k t9 w7)):Cl prog 298 [a,b] w k:=cE func298 h
theorem c318 (h:
 Pu (bI .add a (iv 1)) λt1=>
 Pu (bI .rem t1 (iv 4294967296)) λt2=>
 Cl prog 159 [t2,(iv 4)] w λt3 w4=>
 k t3 w4):Cl prog 318 [a] w k:=cE func318 h
theorem c319 (h:
 Cl prog 379 [a,b] w λt1 w2=>
 k t1 w2):Cl prog 319 [a,b] w k:=cE func319 h
theorem c320 (h:
 Ld w a λt1 w2=>
 Cl prog 321 [t1,(iv 4611686018427387904)] w2 λt3 w4=>
 k t3 w4):Cl prog 320 [a] w k:=cE func320 h
theorem c323 (h:
 Bf (.pointer 411) .eql a np
 (k (iv 2) w)
 (LF 1 a w λt4 w5=>
 k t4 w5)):Cl prog 323 [a] w k:=cE func323 h
theorem c346 (h:
 SF 0 1 a w es λu3 w4=>
 SF 1 1 a w4 b λu7 w8=>
 k (iv 0) w8):Cl prog 346 [a,b] w k:=cE func346 h
theorem c347 (h:
 Bf (.pointer 411) .eql a np
 (k (iv 0) w)
 (LF 0 a w λt4 w5=>
 Pu (bW t4) λt6=>
 k t6 w5)):Cl prog 347 [a] w k:=cE func347 h
end Go.Proofs.YtmdmffeoehfjgaaGreatDoor
namespace Go.Al
structure PP where
 out : Prop
abbrev KP:=Value->World->PP
@[congr] theorem Fg{p:PP}:p.out=p.out:=rfl
@[irreducible] def puP(r:Option Value)(k:Value->PP):PP:=⟨Pu r λv=>(k v).out⟩
@[irreducible] def ldP(w:World)(x:Value)(k:KP):PP:=⟨Ld w x λv w=>(k v w).out⟩
@[irreducible] def BE(n:Nat)(w:World)(x:Value)(k:KP):PP:=⟨LdN n w x λv w=>(k v w).out⟩
@[irreducible] def stP(n:Nat)(w:World)(x u:Value)(k:KP):PP:=⟨St n w x u λv w=>(k v w).out⟩
@[irreducible] def uq(cs:Array Value)(t:TypeId)(w:World)(k:KP):PP:=⟨New cs t w λv w=>(k v w).out⟩
@[irreducible] def rsP{P:Program}(s:Sem Value)(w:World)(k:KP):PP:=⟨RunS P s w λv w=>(k v w).out⟩
@[irreducible] def ruP{P:Program}(s:Sem Unit)(w:World)(k:KP):PP:=⟨RunU P s w λv w=>(k v w).out⟩
@[irreducible] def clP{P:Program}(g:FuncId)(l:List Value)(w:World)(k:KP):PP:=⟨Cl P g l w λv w=>(k v w).out⟩
@[irreducible] def cvP{P:Program}(g:Value)(l:List Value)(w:World)(k:KP):PP:=⟨ClV P g l w λv w=>(k v w).out⟩
@[irreducible] def gdP(c:Bool)(X:KP->PP)(w:World)(k:KP):PP:=⟨Gd c (λk'=>(X λv w=>⟨k' v w⟩).out) w λv w=>(k v w).out⟩
@[irreducible] def ggP(c:Bool)(X:KP->PP)(w:World)(k:Fr->KP):PP:=⟨GdG c (λk'=>(X λv w=>⟨k' v w⟩).out) w λg v w=>(k g v w).out⟩
@[irreducible] def ifP(v:Value)(a b:PP):PP:=⟨IfB v a.out b.out⟩
@[irreducible] def noP:PP:=⟨False⟩
@[irreducible] def yesP:PP:=⟨True⟩
@[irreducible] def oq(a b:PP):PP:=⟨a.out/\b.out⟩
@[irreducible] def Bn(C:World->Prop)(w:World)(p:PP):PP:=⟨C w/\p.out⟩
@[irreducible] def Gi(w w':World)(p:PP):PP:=⟨w=w'/\p.out⟩
@[irreducible] def Gg(u v:Value)(w w':World):PP:=⟨u=v/\w=w'⟩
@[irreducible] def DR(q:Value->PP):PP:=⟨∃v,(q v).out⟩
@[irreducible] def Gj(q:(World->Prop)->PP):PP:=⟨∃C,(q C).out⟩
@[irreducible] def zD(C:World->Prop)(q:World->PP):PP:=⟨∀w,C w->(q w).out⟩
@[irreducible] def jnP(B:List Value->World->PP)(A:(List Value->World->PP)->PP):PP:=⟨Jn (λvs w=>(B vs w).out) λkk=>(A λvs w=>⟨kk vs w⟩).out⟩
@[irreducible] def FZ(q:Fr->PP):PP:=⟨∀g,(q g).out⟩
@[irreducible] def Ga(q:Fr->World->PP):PP:=⟨∀g w,(q g w).out⟩
@[irreducible] def Gb(q:Value->PP):PP:=⟨∀v,(q v).out⟩
@[irreducible] def Gh(l m:List Value)(p:PP):PP:=⟨l=m/\p.out⟩
@[irreducible] def Gk(q:LP->LN->PP):PP:=⟨∃I μ,(q I μ).out⟩
@[irreducible] def iP(I:LP)(l:List Value)(w:World):PP:=⟨I l w⟩
@[irreducible] def Gl(I:LP)(l:List Value)(w:World)(p:PP):PP:=⟨I l w->p.out⟩
@[irreducible] def Gf(I:LP)(μ:LN)(l:List Value)(w:World)(m:List Value)(w':World):PP:=⟨I l w/\μ l w<μ m w'⟩
@[irreducible] def DT(r:List Value)(w:World)(k:KV):PP:=⟨qo (some r) w k⟩
@[irreducible] def DQ(op:BinOp)(t:TypeId)(x y:Operand)(a b:Value):Sem Value:=do eqGuard op t x y a b;binOp op t a b
def GJ(P:Program)(f:Fr)(o:Oper)(w:World)(k:KP):PP:=match o.op with
 | .load t a=>(match mW P t with
  | some false=>ldP w (ev f a) k
  | some true=>(match bM P t with
   | some n=>BE n w (ev f a) k
   | none=>noP)
  | none=>noP)
 | .store t a x=>(match bM P t with
  | some n=>stP n w (ev f a) (ev f x) k
  | none=>noP)
 | .alloc t=>(match Bi P t with
  | some cs=>uq cs t w k
  | none=>noP)
 | .box t x=>uq (ev f x).cells t w k
 | .build t parts=>rsP (P:=P) (Instr.build t (parts.toList.map λp=>(p.1,ev f p.2)).toArray) w k
 | .buildSlice t len parts=>rsP (P:=P) (Instr.buildSlice t len (parts.toList.map λp=>(p.1,ev f p.2)).toArray) w k
 | .lookup t m i ok=>rsP (P:=P) (Instr.lookup t (ev f m) (ev f i) ok) w k
 | .mapUpdate t m i x | .insert t m i x=>ruP (P:=P) (Instr.mapUpdate t (ev f m) (ev f i) (ev f x)) w k
 | .range t x=>rsP (P:=P) (Instr.range t (ev f x)) w k
 | .next it s=>rsP (P:=P) (Instr.next (ev f it) s o.type) w k
 | .entry it=>rsP (P:=P) (Instr.entry (ev f it)) w k
 | .makeMap t r=>rsP (P:=P) (Instr.makeMap t (qn f r)) w k
 | .makeSlice t l c=>rsP (P:=P) (Instr.makeSlice t (ev f l) (ev f c)) w k
 | .convert src dst x=>rsP (P:=P) (convert src dst (ev f x)) w k
 | .binOp op t x y _=>rsP (P:=P) (DQ op t x y (ev f x) (ev f y)) w k
 | .slice t x lo hi mx=>rsP (P:=P) (Instr.sliceAt t (ev f x) (qn f lo) (qn f hi) (qn f mx)) w k
 | .makeInterface t x=>rsP (P:=P) (Instr.makeInterface t (ev f x)) w k
 | .call c=>(match c.callee with
  | .value (.func g)=>bif jw P g then clP (P:=P) g (evs f c.args) w k else noP
  | .value x=>cvP (P:=P) (ev f x) (evs f c.args) w k
  | .builtin .append=>rsP (P:=P) (Builtin.append_ c.argTypes o.type (evs f c.args).toArray) w k
  | .builtin .copy=>rsP (P:=P) (Builtin.copy_ c.argTypes o.type (evs f c.args).toArray) w k
  | .builtin .delete=>rsP (P:=P) (Builtin.delete_ c.argTypes o.type (evs f c.args).toArray) w k
  | .builtin .clear=>rsP (P:=P) (Builtin.clear_ c.argTypes o.type (evs f c.args).toArray) w k
  | .builtin .len=>rsP (P:=P) (Builtin.len_ c.argTypes o.type (evs f c.args).toArray) w k
  | .builtin .cap=>rsP (P:=P) (Builtin.cap_ c.argTypes o.type (evs f c.args).toArray) w k
  | _=>noP)
 | _=>noP
theorem Ac(P:Program)(f:Fr)(o:Oper)(w:World)(k:KP):(GJ P f o w k).out=eff P f o w λv w=>(k v w).out:=by
 unfold GJ eff;cases o.op<;>try (unfold noP;rfl)
 case load t a=>
  simp only;cases mW P t with
  | none=>unfold noP;rfl
  | some b=>
   cases b with
   | false=>unfold ldP;rfl
   | true=>simp only;cases bM P t<;>first|(unfold noP;rfl)|(unfold BE;rfl)
 case store t a x=>simp only;cases bM P t<;>first|(unfold noP;rfl)|(unfold stP;rfl)
 case alloc t=>simp only;cases Bi P t<;>first|(unfold noP;rfl)|(unfold uq;rfl)
 case box=>unfold uq;rfl
 case mapUpdate=>unfold ruP;rfl
 case insert=>unfold ruP;rfl
 case binOp=>unfold rsP DQ;rfl
 case call c=>
  simp only;cases c.callee with
  | value x=>
   cases x<;>try (unfold cvP;rfl)
   rename_i g;simp only;cases jw P g<;>first|(unfold noP;rfl)|(unfold clP;rfl)
  | builtin b=>cases b<;>first|(unfold noP;rfl)|(unfold rsP;rfl)
  | _=>unfold noP;rfl
 all_goals (unfold rsP;rfl)
def Bz(P:Program)(f:Fr)(o:Oper)(w:World)(k:KP):PP:=match mvV f o with
 | some v=>k v w
 | none=>(match pu P f o with
  | some r=>puP r λv=>k v w
  | none=>GJ P f o w k)
theorem fM(P:Program)(f:Fr)(o:Oper)(w:World)(k:KP):(Bz P f o w k).out=exO P f o w λv w=>(k v w).out:=by
 unfold Bz exO;cases mvV f o with
 | some v=>rfl
 | none=>
  cases pu P f o with
  | some r=>unfold puP;rfl
  | none=>exact Ac ..
def KGP(P:Program)(n:Nat)(la:Oper):List Oper->Fr->World->KP->PP
 | [],f,w,kk=>Bz P f la w kk
 | o::l,f,w,kk=>Bz P f o w (λv w'=>KGP P n la l (fT n f o.dst v) w' kk)
theorem vB(P:Program)(n:Nat)(la:Oper):∀(l:List Oper) (f:Fr) (w:World) (k:KP),(KGP P n la l f w k).out=KG P n la l f w λv w=>(k v w).out
 | [],f,w,k=>fM ..
 | o::l,f,w,k=>by rw[KGP,KG,fM];congr;funext v w';exact vB P n la l _ w' k
def KOP(P:Program)(n:Nat)(ops:Array Oper):Nat->List Oper->Fr->World->(Fr->World->PP)->PP
 | _,[],f,w,k=>k f w
 | 0,_::_,_,_,_=>noP
 | m+1,o::l,f,w,k=>match o.guard with
  | none=>Bz P f o w (λv w'=>KOP P n ops m l (fT n f o.dst v) w' k)
  | some (j,b)=>match gh (jx ((ops.toList[j]?).bind (·.dst)) j b) o l with
   | ([],la,re)=>gdP (isB b (yl ops f j)) (λk'=>Bz P f la w k') w (λv w'=>KOP P n ops m re (fT n f la.dst v) w' k)
   | (x::fr,la,re)=>ggP (isB b (yl ops f j)) (KGP P n la (x::fr) f w) w (λg v w'=>KOP P n ops m re (fT n (hav (fZ (x::fr)) g f) la.dst v) w' k)
theorem mS(P:Program)(n:Nat)(ops:Array Oper):∀(m:Nat) (l:List Oper) (f:Fr) (w:World) (k:Fr->World->PP),(KOP P n ops m l f w k).out=KO P n ops m l f w λf w=>(k f w).out
 | 0,[],f,w,k=>rfl
 | m+1,[],f,w,k=>rfl
 | 0,_::_,f,w,k=>by rw[KOP,KO];unfold noP;rfl
 | m+1,o::l,f,w,k=>by
  rw[KOP,KO];cases o.guard with
  | none=>simp only;rw[fM];congr;funext v w';exact mS P n ops m l _ w' k
  | some g=>
   obtain⟨j,b⟩:=g;simp only;cases gh (jx ((ops.toList[j]?).bind (·.dst)) j b) o l with
   | mk fr r=>
    obtain⟨la,re⟩:=r;cases fr with
    | nil=>simp only;unfold gdP;simp only[fM,mS P n ops m re _ _ k]
    | cons x fr=>simp only;unfold ggP;simp only[vB,mS P n ops m re _ _ k]
def gxP(P:Program)(ops:Array Oper)(f:Fr)(o:Oper)(w:World)(k:KP):PP:=match o.guard with
 | none=>Bz P f o w k
 | some (j,b)=>gdP (isB b (yl ops f j)) (λk'=>Bz P f o w k') w k
theorem ky(P:Program)(ops:Array Oper)(f:Fr)(o:Oper)(w:World)(k:KP):(gxP P ops f o w k).out=gx P ops f o w λv w=>(k v w).out:=by
 unfold gxP gx;cases o.guard with
 | none=>exact fM ..
 | some g=>simp only;unfold gdP;simp only[fM]
def tE(p:Oper->Nat->Bool)(X:Oper->Nat->PP):List Oper->Nat->PP
 | [],_=>yesP
 | o::l,k=>bif p o k then oq (X o k) (tE p X l (k+1)) else tE p X l (k+1)
theorem jR(p:Oper->Nat->Bool)(X:Oper->Nat->PP):∀(l:List Oper) (k:Nat),(tE p X l k).out=Bm p (λo k=>(X o k).out) l k
 | [],k=>by rw[tE,Bm];unfold yesP;rfl
 | o::l,k=>by
  rw[tE,Bm];cases p o k with
  | true=>simp only[D8];unfold oq;rw[jR p X l]
  | false=>simp only[C8];rw[jR p X l]
def ju(P:Program)(n:Nat)(ops:Array Oper)(L:List Oper)(W:List Nat)(hc:Bool)(C:World->Prop)(k:Fr->World->PP):Nat->Nat->Fr->World->PP
 | 0,m,f,w=>match gG (kY m) L 0 with
  | none=>k f w
  | some _=>noP
 | fuel+1,m,f,w=>match gG (λo i=>kY m o i&&!cI P o) L 0 with
  | some i=>(match L[i]? with
   | some o=>bif qL ops o i m L 0 then
     (bif CG P f o then gxP P ops f o w (λv w'=>ju P n ops L W hc C k fuel (gk m i) (fT n f o.dst v) w')
      else bif aOk P W i m L 0 then gxP P ops f o w (λv w'=>Gi w' w (ju P n ops L W hc C k fuel (gk m i) (fT n f o.dst v) w))
      else bif zW P W L o i then DR λv=>oq (zD C λw'=>gxP P ops f o w' (λu w2=>Gg u v w2 w')) (ju P n ops L W hc C k fuel (gk m i) (fT n f o.dst v) w) else noP)
    else noP
   | none=>noP)
  | none=>match gG (kY m) L 0 with
   | none=>k f w
   | some i=>(match L[i]? with
    | some o=>(match gG (λo j=>kY m o j&&!(Nat.beq j i)) L 0 with
     | none=>gxP P ops f o w (λv w'=>bif hc&&fB P W L (gk m i) L 0 then Bn C w' (ju P n ops L W hc C k fuel (gk m i) (fT n f o.dst v) w') else ju P n ops L W hc C k fuel (gk m i) (fT n f o.dst v) w')
     | some _=>tE (kY m) (λo i=>gxP P ops f o w (λv w'=>bif hc&&fB P W L (gk m i) L 0 then Bn C w' (ju P n ops L W hc C k fuel (gk m i) (fT n f o.dst v) w') else ju P n ops L W hc C k fuel (gk m i) (fT n f o.dst v) w')) L 0)
    | none=>noP)
theorem Bj(b:Bool)(C:World->Prop)(w:World)(p:PP):(bif b then Bn C w p else p).out=CK b C w p.out:=by
 unfold CK;cases b with
 | true=>simp only[D8];unfold Bn;rfl
 | false=>rfl
theorem jO(P:Program)(n:Nat)(ops:Array Oper)(L:List Oper)(W:List Nat)(hc:Bool)(C:World->Prop)(k:Fr->World->PP):∀(fuel m:Nat) (f:Fr) (w:World),(ju P n ops L W hc C k fuel m f w).out=nZ P n ops L W hc C (λf w=>(k f w).out) fuel m f w
 | 0,m,f,w=>by
  rw[ju,nZ];cases gG (kY m) L 0 with
  | none=>rfl
  | some _=>unfold noP;rfl
 | fuel+1,m,f,w=>by
  have ih:=jO P n ops L W hc C k fuel;rw[ju,nZ];cases gG (λo i=>kY m o i&&!cI P o) L 0 with
  | some i=>
   simp only;cases L[i]? with
   | none=>unfold noP;rfl
   | some o=>
    simp only;cases qL ops o i m L 0 with
    | false=>unfold noP;rfl
    | true=>
     simp only[D8];cases CG P f o with
     | true=>simp only[D8];rw[ky];simp only[ih]
     | false=>
      simp only[C8];cases aOk P W i m L 0 with
      | true=>simp only[D8];rw[ky];unfold Gi;simp only[ih]
      | false=>
       simp only[C8];cases zW P W L o i with
       | false=>unfold noP;rfl
       | true=>simp only[D8];unfold DR oq zD;simp only[ky,ih];unfold Gg;rfl
  | none=>
   simp only;cases gG (kY m) L 0 with
   | none=>rfl
   | some i=>
    simp only;cases L[i]? with
    | none=>unfold noP;rfl
    | some o=>
     simp only;cases gG (λo j=>kY m o j&&!(Nat.beq j i)) L 0 with
     | none=>simp only;rw[ky];simp only[Bj,ih]
     | some _=>simp only;rw[jR];simp only[ky,Bj,ih]
abbrev DrawP:=Program->Nat->Array Oper->Fr->World->(Fr->World->PP)->PP
def KDP:DrawP:=λP n ops f w k=>
 bif BQ ops.toList&&okW (mkW ops.toList []) ops.toList 0 then
  (bif xO P (mkW ops.toList []) ops.toList ops.toList 0 then Gj λC=>Bn C w.drew (ju P n ops ops.toList (mkW ops.toList []) true C k ops.toList.length 0 f w.drew)
   else ju P n ops ops.toList (mkW ops.toList []) false (λ_=>True) k ops.toList.length 0 f w.drew)
 else noP
theorem Cb(P:Program)(n:Nat)(ops:Array Oper)(f:Fr)(w:World)(k:Fr->World->PP):(KDP P n ops f w k).out=KD P n ops f w λf w=>(k f w).out:=by
 unfold KDP KD;cases BQ ops.toList&&okW (mkW ops.toList []) ops.toList 0 with
 | false=>unfold noP;rfl
 | true=>
  simp only[D8];cases xO P (mkW ops.toList []) ops.toList ops.toList 0 with
  | true=>simp only[D8];unfold Gj Bn;simp only[jO]
  | false=>simp only[C8];exact jO ..
def zy:List Nat->(Fr->PP)->Fr->PP
 | [],p,f=>p f
 | s::L,p,f=>Gb λv=>zy L p (upd f s v)
theorem od:∀(L:List Nat) (p:Fr->PP) (f:Fr),(zy L p f).out=DU L (λf=>(p f).out) f
 | [],p,f=>rfl
 | s::L,p,f=>by rw[zy,DU];unfold Gb;simp only[od L p]
def DW:List Nat->List Value->(Fr->PP)->Fr->List Value->PP
 | [],acc,p,f,vs=>Gh vs acc (p f)
 | s::L,acc,p,f,vs=>DR λv=>DW L (acc++[v]) p (upd f s v) vs
theorem rR:∀(L:List Nat) (acc:List Value) (p:Fr->PP) (f:Fr) (vs:List Value),(DW L acc p f vs).out=ExV L acc (λf=>(p f).out) f vs
 | [],acc,p,f,vs=>by rw[DW,ExV];unfold Gh;rfl
 | s::L,acc,p,f,vs=>by rw[DW,ExV];unfold DR;simp only[rR L _ p]
def KT(P:Program)(n:Nat)(lv:Nat->List Nat)(jn:Nat->Option (List Nat)):Code->(Ex->Fr->World->PP)->Fr->World->PP
 | .skip,Q,f,w=>Q .normal f w
 | .label _,Q,f,w=>Q .normal f w
 | .region _ ops d,Q,f,w=>bif d then KDP P n ops f w (Q .normal) else KOP P n ops ops.toList.length ops.toList f w (Q .normal)
 | .seq a b,Q,f,w=>match jn (zv b) with
  | none=>KT P n lv jn a (λe f' w'=>match e with
   | .normal=>KT P n lv jn b Q f' w'
   | .exit i=>Q (.exit i) f' w'
   | .ret=>Q .ret f' w') f w
  | some L=>jnP (λvs w'=>FZ λg=>DW L [] (λf'=>KT P n lv jn b Q f' w') (hav (ml a) g f) vs)
    (λkk=>KT P n lv jn a (λe f' w'=>match e with
     | .normal=>kk (L.map f') w'
     | .exit i=>Q (.exit i) f' w'
     | .ret=>Q .ret f' w') f w)
 | .cond c x y,Q,f,w=>ifP (ev f c) (KT P n lv jn x Q f w) (KT P n lv jn y Q f w)
 | .block id c,Q,f,w=>KT P n lv jn c (λe f' w'=>match e with
  | .normal=>Q .normal f' w'
  | .exit i=>bif Nat.beq i id then Q .normal f' w' else Q (.exit i) f' w'
  | .ret=>Q .ret f' w') f w
 | .loop c,Q,f,w=>Gk λI μ=>oq (iP I ((lv (bo c)).map f) w) (Ga λg w'=>zy (lv (bo c)) (λf1=>Gl I ((lv (bo c)).map f1) w' (KT P n lv jn c (λe f2 w2=>match e with
    | .normal=>Gf I μ ((lv (bo c)).map f2) w2 ((lv (bo c)).map f1) w'
    | .exit i=>Q (.exit i) f2 w2
    | .ret=>Q .ret f2 w2) f1 w')) (hav (ml c) g f))
 | .exit id,Q,f,w=>Q (.exit id) f w
 | .ret,Q,f,w=>Q .ret f w
 | _,_,_,_=>noP
theorem Ed(P:Program)(n:Nat)(lv:Nat->List Nat)(jn:Nat->Option (List Nat))(c:Code):∀(Q:Ex->Fr->World->PP) (f:Fr) (w:World),(KT P n lv jn c Q f w).out=K KD P n lv jn c (λe f w=>(Q e f w).out) f w:=by
 induction c with
 | region id ops d=>
  intro Q f w;rw[KT,K];cases d with
  | true=>exact Cb ..
  | false=>exact mS ..
 | seq a b iha ihb=>
  intro Q f w;rw[KT,K];cases jn (zv b) with
  | none=>simp only;rw[iha];congr;funext e f' w';cases e<;>first|exact ihb .. | rfl
  | some L=>simp only;unfold jnP FZ;simp only[rR,ihb,iha];congr;funext kk;congr;funext e f' w';cases e<;>rfl
 | cond c x y ihx ihy=>intro Q f w;rw[KT,K];unfold ifP;simp only[ihx,ihy]
 | block id c ih=>intro Q f w;rw[KT,K,ih];congr;funext e f' w';cases e<;>first|rfl|(rename_i i;simp only;cases Nat.beq i id<;>rfl)
 | loop c ih=>
  intro Q f w;rw[KT,K];unfold Gk oq iP Ga;simp only[od];unfold Gl;simp only[ih];unfold Gf;congr;funext I;congr;funext μ;congr;apply propext;have e:∀(f1:Fr) (w':World),(λe f2 w2=>(match e with
    | .normal=>(⟨I ((lv (bo c)).map f2) w2/\μ ((lv (bo c)).map f2) w2<μ ((lv (bo c)).map f1) w'⟩:PP)
    | .exit i=>Q (.exit i) f2 w2
    | .ret=>Q .ret f2 w2:PP).out)=(λ(e:Ex) (f2:Fr) (w2:World)=>(match e with
    | .normal=>I ((lv (bo c)).map f2) w2/\μ ((lv (bo c)).map f2) w2<μ ((lv (bo c)).map f1) w'
    | .exit i=>(Q (.exit i) f2 w2).out
    | .ret=>(Q .ret f2 w2).out:Prop)):=by
   intro f1 w';funext e f2 w2;cases e<;>rfl
  simp only[e];exact Iff.rfl
 | _=>intro Q f w;first|rfl|(show noP.out=False;unfold noP;rfl)
def AN(P:Program)(f:Fr)(w:World)(k:KV):List ResultVar->List Value->PP
 | [],acc=>DT acc w k
 | .tmp t::l,acc=>AN P f w k l (acc++[f t])
 | .cell a t::l,acc=>match mW P t with
  | some false=>ldP w (f a) λv _=>AN P f w k l (acc++[v])
  | some true=>(match bM P t with
   | some n=>BE n w (f a) λv _=>AN P f w k l (acc++[v])
   | none=>noP)
  | none=>noP
theorem jJ(P:Program)(f:Fr)(w:World)(k:KV):∀(l:List ResultVar) (acc:List Value),(AN P f w k l acc).out=qo ((jq P f w l).map (acc++·)) w k
 | [],acc=>by rw[AN];unfold DT;simp[jq]
 | .tmp t::l,acc=>by rw[AN,jJ P f w k l];simp only[jq,yx];cases jq P f w l<;>simp
 | .cell a t::l,acc=>by
  rw[AN];simp only[jq,yx];have no:∀{r:Option (List Value)},r=none->noP.out=qo r w k:=by rintro _ rfl;unfold noP;rfl
  cases hx:f a<;>try (cases mW P t with
   | none=>exact no rfl
   | some g=>
    cases g with
    | false=>unfold ldP;exact du (λh=>h.out.elim) (λh=>h.elim)
    | true=>
     simp only;cases bM P t with
     | none=>exact no rfl
     | some n=>unfold BE;exact du (λh=>h.out.elim) (λh=>h.elim))
  rename_i ad;cases ad with
  | none=>
   cases mW P t with
   | none=>exact no rfl
   | some g=>
    cases g with
    | false=>unfold ldP;exact du (λh=>h.out.elim) (λh=>h.elim)
    | true=>
     simp only;cases bM P t with
     | none=>exact no rfl
     | some n=>unfold BE;exact du (λh=>h.out.elim) (λh=>h.elim)
  | some b=>
   simp only;cases mW P t with
   | none=>exact no rfl
   | some g=>
    cases g with
    | false=>
     unfold ldP;simp only[rU];cases w.cell? b with
     | none=>exact du (λh=>h.out.elim) (λh=>h.elim)
     | some v=>simp only[bB,jJ P f w k l];cases jq P f w l<;>simp
    | true=>
     simp only;cases bM P t with
     | none=>exact no rfl
     | some n=>
      unfold BE;simp only[vC,aI];cases bC w b 0 n with
      | none=>exact du (λh=>h.out.elim) (λh=>h.elim)
      | some v=>simp only[I2,bB,jJ P f w k l];cases jq P f w l<;>simp
def zw(P:Program)(fn:Func)(k:KV):Ex->Fr->World->PP
 | .normal,f,w=>AN P f w k fn.results.toList []
 | .ret,f,w=>AN P f w k fn.results.toList []
 | .exit _,_,_=>noP
theorem AO(P:Program)(fn:Func)(k:KV):(λe f w=>(zw P fn k e f w).out)=Df P fn k:=by funext e f w;cases e<;>simp only[zw,Df,jJ]<;>first|(unfold noP;rfl)|(cases jq P f w fn.results.toList<;>simp)
theorem cT0{P:Program}(hm:P.follows .mixedOrders=true)(lv:Nat->List Nat)(jn:Nat->Option (List Nat)){g:FuncId}{fn:Func}{args:List Value}{w:World}{k:KV}{t:PP}
  (hf:P.funcs[g]?=some fn) (hb:fn.body.isSome=true) (hn:Nat.ble args.length fn.ntmps=true) (he:KT P fn.ntmps lv jn (fn.body.getD .skip) (zw P fn k) (oa args) w=t) (h:t.out):Cl P g args w k:=by
 refine cE0 rT hm lv jn hf hb hn rfl ?_;rw[<- AO,<- Ed,he];exact h
theorem vZ(d:TypeDesc)(s t:ByteArray):aC d .geq (.string s) (.string t)=some (.bool !(Op.bytesLess s.toList t.toList)):=rfl
theorem mx2(a b:Int):aB aQ [.int .i64 a,.int .i64 b]=some (.int .i64 (max a b)):=by show some (Value.int _ (if b > a then b else a))=_;congr 2;split<;>omega
theorem RT0:(∀(r:Option Value) (k:Value->PP),(puP r k).out=Pu r λv=>(k v).out) /\
 (∀(w:World) (x:Value) (k:KP),(ldP w x k).out=Ld w x λv w=>(k v w).out) /\
 (∀(n:Nat) (w:World) (x:Value) (k:KP),(BE n w x k).out=LdN n w x λv w=>(k v w).out) /\
 (∀(n:Nat) (w:World) (x u:Value) (k:KP),(stP n w x u k).out=St n w x u λv w=>(k v w).out) /\
 (∀(cs:Array Value) (t:TypeId) (w:World) (k:KP),(uq cs t w k).out=New cs t w λv w=>(k v w).out) /\
 (∀{P:Program} (s:Sem Value) (w:World) (k:KP),(rsP (P:=P) s w k).out=RunS P s w λv w=>(k v w).out) /\
 (∀{P:Program} (s:Sem Unit) (w:World) (k:KP),(ruP (P:=P) s w k).out=RunU P s w λv w=>(k v w).out) /\
 (∀{P:Program} (g:FuncId) (l:List Value) (w:World) (k:KP),(clP (P:=P) g l w k).out=Cl P g l w λv w=>(k v w).out) /\
 (∀{P:Program} (g:Value) (l:List Value) (w:World) (k:KP),(cvP (P:=P) g l w k).out=ClV P g l w λv w=>(k v w).out) /\
 (∀(c:Bool) (X:KP->PP) (w:World) (k:KP),(gdP c X w k).out=Gd c (λk'=>(X λv w=>⟨k' v w⟩).out) w λv w=>(k v w).out) /\
 (∀(c:Bool) (X:KP->PP) (w:World) (k:Fr->KP),(ggP c X w k).out=GdG c (λk'=>(X λv w=>⟨k' v w⟩).out) w λg v w=>(k g v w).out) /\
 (∀(v:Value) (a b:PP),(ifP v a b).out=IfB v a.out b.out):=by
 unfold puP ldP BE stP uq rsP ruP clP cvP gdP ggP ifP;exact⟨λ_ _=>rfl,λ_ _ _=>rfl,λ_ _ _ _=>rfl,λ_ _ _ _ _=>rfl,λ_ _ _ _=>rfl,λ_ _ _=>rfl,λ_ _ _=>rfl,λ_ _ _ _=>rfl,λ_ _ _ _=>rfl,λ_ _ _ _=>rfl,λ_ _ _ _=>rfl,λ_ _ _=>rfl⟩
theorem RT1:noP.out=False/\yesP.out=True/\(∀(a b:PP),(oq a b).out=(a.out/\b.out)) /\
 (∀(C:World->Prop) (w:World) (p:PP),(Bn C w p).out=(C w/\p.out)) /\
 (∀(w w':World) (p:PP),(Gi w w' p).out=(w=w'/\p.out)) /\
 (∀(u v:Value) (w w':World),(Gg u v w w').out=(u=v/\w=w')) /\
 (∀(q:Value->PP),(DR q).out=∃v,(q v).out) /\
 (∀(q:(World->Prop)->PP),(Gj q).out=∃C,(q C).out) /\
 (∀(C:World->Prop) (q:World->PP),(zD C q).out=∀w,C w->(q w).out) /\
 (∀(B:List Value->World->PP) (A:(List Value->World->PP)->PP),(jnP B A).out=Jn (λvs w=>(B vs w).out) λkk=>(A λvs w=>⟨kk vs w⟩).out) /\
 (∀(q:Fr->PP),(FZ q).out=∀g,(q g).out) /\
 (∀(q:Fr->World->PP),(Ga q).out=∀g w,(q g w).out) /\
 (∀(q:Value->PP),(Gb q).out=∀v,(q v).out):=by
 unfold noP yesP oq Bn Gi Gg DR Gj zD jnP FZ Ga Gb;exact⟨rfl,rfl,λ_ _=>rfl,λ_ _ _=>rfl,λ_ _ _=>rfl,λ_ _ _ _=>rfl,λ_=>rfl,λ_=>rfl,λ_ _=>rfl,λ_ _=>rfl,λ_=>rfl,λ_=>rfl,λ_=>rfl⟩
theorem RT2:(∀(l m:List Value) (p:PP),(Gh l m p).out=(l=m/\p.out)) /\
 (∀(q:LP->LN->PP),(Gk q).out=∃I μ,(q I μ).out) /\
 (∀(I:LP) (l:List Value) (w:World),(iP I l w).out=I l w) /\
 (∀(I:LP) (l:List Value) (w:World) (p:PP),(Gl I l w p).out=(I l w->p.out)) /\
 (∀(I:LP) (μ:LN) (l:List Value) (w:World) (m:List Value) (w':World),(Gf I μ l w m w').out=(I l w/\μ l w<μ m w')) /\
 (∀(v:Value) (w:World) (k:KV),(DT [v] w k).out=k v w) /\
 (∀(w:World) (k:KV),(DT [] w k).out=k (.tuple #[]) w) /\
 (∀(a b:Value) (l:List Value) (w:World) (k:KV),(DT (a::b::l) w k).out=k (.tuple (List.toArray (a::b::l))) w) /\
 (∀p:Prop,(PP.mk p).out=p):=by
 unfold Gh Gk iP Gl Gf DT;exact⟨λ_ _ _=>rfl,λ_=>rfl,λ_ _ _=>rfl,λ_ _ _ _=>rfl,λ_ _ _ _ _ _=>rfl,λ_ _ _=>rfl,λ_ _=>rfl,λ_ _ _ _ _=>rfl,λ_=>rfl⟩
theorem RT3:(∀cs:Array Value,(Value.agg cs).cells=cs)/\(∀(k:IntKind) (n:Int),(Value.int k n).cells=#[.int k n])/\(∀s:ByteArray,(Value.string s).cells=#[.string s])/\(∀b:Bool,(Value.bool b).cells=#[.bool b])/\(∀a:Option Addr,(Value.pointer a).cells=#[.pointer a])/\(∀(a:Option Addr) (n c:Nat),(Value.slice a n c).cells=#[.slice a n c])/\(∀b:Option Nat,(Value.map b).cells=#[.map b]) /\
 (∀(P:Program) (g:FuncId) (x y:Array Value) (l:List Value) (w:World) (k:KV),jw P g=true->(ClV P (.func (.func g) x y) l w k↔Cl P g (x.toList++l++y.toList) w k)):=
 ⟨λ_=>rfl,λ_ _=>rfl,λ_=>rfl,λ_=>rfl,λ_=>rfl,λ_ _ _=>rfl,λ_=>rfl,λP g x y l w k hb=>⟨λh=>by have:=h.out;simp only[ClV0,hb,D8] at this;exact this,λh=>⟨by simp only[ClV0,hb,D8];exact h⟩⟩⟩
end Go.Al
namespace Go.Proofs.YtmdmffeoehfjgaaGreatDoor
open Go.Al Go.Proofs Go.Proofs.Tryz
abbrev F0:Nat->Prop:=λ_=>False
def V:List (Nat×List Nat)->Nat->List Nat
 | [],_=>[]
 | (i,l)::r,j=>bif Nat.beq j i then l else V r j
def J:List (Nat×List Nat)->Nat->Option (List Nat)
 | [],_=>none
 | (i,l)::r,j=>bif Nat.beq j i then some l else J r j
theorem RW0:(∀l:List UInt8,ByteArray.mk (Array.mk l)=str l)/\(∀l:Bs,(str l).size=l.length)/\(∀a b:Bs,(str a=str b)=(a=b))/\Int.negSucc 0 = -1/\(∀{α:Type} (l:List α) (i:Nat),(List.toArray l)[i]?=l[i]?)/\(∀{α:Type} (a:α) (l:List α),(a::l)[0]?=some a)/\(∀{α:Type} (a:α) (l:List α) (i:Nat),(a::l)[i+1]?=l[i]?) /\
 (∀p:Prop,(True/\p)=p)/\(∀p:Prop,(∀_:Fr,p)=p)/\(∀(x:Value) (p:Value->Prop),(∃v,[x]=[v]/\p v)=p x)/\(∀(x y:Value) (p:Value->Value->Prop),(∃v u,[x,y]=[v,u]/\p v u)=p x y):=
 ⟨λ_=>rfl,aq,λ_ _=>propext br,rfl,λ_ _=>sI,λ_ _=>rfl,λ_ _ _=>rfl,JF,λp=>propext ⟨λh=>h (λ_=>undef),λh _=>h⟩,λx p=>propext ⟨λ⟨v,h,hp⟩=>by cases h;exact hp,λh=>⟨x,rfl,h⟩⟩,λx y p=>propext ⟨λ⟨v,u,h,hp⟩=>by cases h;exact hp,λh=>⟨x,y,rfl,h⟩⟩⟩
theorem RW1:Int.ofNat 0=0/\Int.ofNat 1=1/\Int.ofNat 2=2/\Int.ofNat 3=3/\Int.ofNat 4=4/\Int.ofNat 5=5/\Int.ofNat 6=6/\Int.ofNat 7=7/\Int.ofNat 8=8/\Int.ofNat 9=9/\Int.ofNat 10=10/\Int.ofNat 11=11/\Int.ofNat 12=12/\Int.ofNat 13=13/\Int.ofNat 14=14/\Int.ofNat 15=15/\Int.ofNat 16=16/\Int.ofNat 17=17/\Int.ofNat 18=18/\Int.ofNat 19=19/\Int.ofNat 20=20/\Int.ofNat 21=21/\Int.ofNat 22=22/\Int.ofNat 23=23/\Int.ofNat 24=24/\Int.ofNat 25=25/\Int.ofNat 26=26/\Int.ofNat 27=27/\Int.ofNat 28=28/\Int.ofNat 29=29/\Int.ofNat 30=30/\Int.ofNat 31=31/\Int.ofNat 32=32/\Int.ofNat 50=50/\Int.ofNat 51=51/\Int.ofNat 54=54/\Int.ofNat 60=60/\Int.ofNat 63=63/\Int.ofNat 64=64/\Int.ofNat 65=65/\Int.ofNat 70=70/\Int.ofNat 100=100/\Int.ofNat 110=110/\Int.ofNat 120=120/\Int.ofNat 121=121/\Int.ofNat 127=127/\Int.ofNat 140=140/\Int.ofNat 150=150/\Int.ofNat 160=160/\Int.ofNat 180=180/\Int.ofNat 181=181/\Int.ofNat 182=182/\Int.ofNat 183=183/\Int.ofNat 184=184/\Int.ofNat 220=220/\Int.ofNat 221=221/\Int.ofNat 222=222/\Int.ofNat 223=223/\Int.ofNat 224=224/\Int.ofNat 255=255/\Int.ofNat 500=500/\Int.ofNat 512=512/\Int.ofNat 700=700/\Int.ofNat 1024=1024/\Int.ofNat 1500=1500/\Int.ofNat 4096=4096/\Int.ofNat 8191=8191/\Int.ofNat 65535=65535:=⟨rfl,rfl,rfl,rfl,rfl,rfl,rfl,rfl,rfl,rfl,rfl,rfl,rfl,rfl,rfl,rfl,rfl,rfl,rfl,rfl,rfl,rfl,rfl,rfl,rfl,rfl,rfl,rfl,rfl,rfl,rfl,rfl,rfl,rfl,rfl,rfl,rfl,rfl,rfl,rfl,rfl,rfl,rfl,rfl,rfl,rfl,rfl,rfl,rfl,rfl,rfl,rfl,rfl,rfl,rfl,rfl,rfl,rfl,rfl,rfl,rfl,rfl,rfl,rfl,rfl,rfl,rfl,rfl⟩
theorem jn1(B:List Value->World->Prop)(A:(List Value->World->Prop)->Prop):Jn B A=A B:=propext ⟨λh=>h.out,λh=>⟨h⟩⟩
theorem RU:type_of% (And.intro @RS (And.intro @RT0 (And.intro @RT1 (And.intro @RT2 (And.intro @RT3 (And.intro RW0 RW1)))))):=And.intro @RS (And.intro @RT0 (And.intro @RT1 (And.intro @RT2 (And.intro @RT3 (And.intro RW0 RW1)))))
theorem RY:(∀l:List UInt8,ByteArray.mk (Array.mk l)=str l)/\Int.negSucc 0 = -1/\(∀h,(⟨⟨⟨0,h⟩⟩⟩:UInt8)=0)/\Int.ofNat 40=40/\Int.ofNat 41=41/\Int.ofNat 59=59/\Int.ofNat 128=128/\Int.ofNat 508=508/\Int.ofNat 8192=8192/\Int.ofNat 65536=65536/\Int.ofNat 4294967295=4294967295/\Int.ofNat 4611686018427387904=4611686018427387904/\Int.ofNat 3988292384=3988292384/\Int.ofNat 9223372036854775808=9223372036854775808:=⟨λ_=>rfl,rfl,λ_=>rfl,rfl,rfl,rfl,rfl,rfl,rfl,rfl,rfl,rfl,rfl,rfl⟩
theorem RV:type_of% (And.intro @RT0 (And.intro @RT1 (And.intro @RT2 (And.intro @RT3 (And.intro RY RW1))))):=And.intro @RT0 (And.intro @RT1 (And.intro @RT2 (And.intro @RT3 (And.intro RY RW1))))
theorem cV{f:FuncId}{fn:Func}{l:List Value}{w:World}{k:KV}{t:PP}{q:Prop}(hf:prog.funcs[f]?=some fn)(h:q)(lv:Nat->List Nat:=V [])(jn:Nat->Option (List Nat):=J [])(hb:fn.body.isSome=true:=by kernel_rfl)(hn:Nat.ble l.length fn.ntmps=true:=by kernel_rfl)(he:KT prog fn.ntmps lv jn (fn.body.getD .skip) (zw prog fn k) (oa l) w=t:=by conv=>lhs;reduce)(hq:t.out=q:=by conv=>lhs;simp only[RV]):Cl prog f l w k:=cT0 pr lv jn hf hb hn he (hq▸h)
theorem cU0{f:FuncId}{fn:Func}{w:World}{k:KV}{t:World->KV->PP}{q:Prop}(hf:prog.funcs[f]?=some fn)(h:q)(lv:Nat->List Nat:=V [])(jn:Nat->Option (List Nat):=J [])(hb:fn.body.isSome=true:=by kernel_rfl)(hn:Nat.ble 0 fn.ntmps=true:=by kernel_rfl)(he:∀w k,KT prog fn.ntmps lv jn (fn.body.getD .skip) (zw prog fn k) (oa []) w=t w k:=by intro w k;conv=>lhs;reduce)(hq:(t w k).out=q:=by conv=>lhs;simp only[RU]):Cl prog f [] w k:=cT0 pr lv jn hf hb hn (he w k) (hq▸h)
theorem cU1{f:FuncId}{fn:Func}{a:Value}{w:World}{k:KV}{t:Value->World->KV->PP}{q:Prop}(hf:prog.funcs[f]?=some fn)(h:q)(lv:Nat->List Nat:=V [])(jn:Nat->Option (List Nat):=J [])(hb:fn.body.isSome=true:=by kernel_rfl)(hn:Nat.ble 1 fn.ntmps=true:=by kernel_rfl)(he:∀a w k,KT prog fn.ntmps lv jn (fn.body.getD .skip) (zw prog fn k) (oa [a]) w=t a w k:=by intro a w k;conv=>lhs;reduce)(hq:(t a w k).out=q:=by conv=>lhs;simp only[RU]):Cl prog f [a] w k:=cT0 pr lv jn hf hb hn (he a w k) (hq▸h)
theorem cU2{f:FuncId}{fn:Func}{a b:Value}{w:World}{k:KV}{t:Value->Value->World->KV->PP}{q:Prop}(hf:prog.funcs[f]?=some fn)(h:q)(lv:Nat->List Nat:=V [])(jn:Nat->Option (List Nat):=J [])(hb:fn.body.isSome=true:=by kernel_rfl)(hn:Nat.ble 2 fn.ntmps=true:=by kernel_rfl)(he:∀a b w k,KT prog fn.ntmps lv jn (fn.body.getD .skip) (zw prog fn k) (oa [a,b]) w=t a b w k:=by intro a b w k;conv=>lhs;reduce)(hq:(t a b w k).out=q:=by conv=>lhs;simp only[RU]):Cl prog f [a,b] w k:=cT0 pr lv jn hf hb hn (he a b w k) (hq▸h)
theorem cU3{f:FuncId}{fn:Func}{a b c:Value}{w:World}{k:KV}{t:Value->Value->Value->World->KV->PP}{q:Prop}(hf:prog.funcs[f]?=some fn)(h:q)(lv:Nat->List Nat:=V [])(jn:Nat->Option (List Nat):=J [])(hb:fn.body.isSome=true:=by kernel_rfl)(hn:Nat.ble 3 fn.ntmps=true:=by kernel_rfl)(he:∀a b c w k,KT prog fn.ntmps lv jn (fn.body.getD .skip) (zw prog fn k) (oa [a,b,c]) w=t a b c w k:=by intro a b c w k;conv=>lhs;reduce)(hq:(t a b c w k).out=q:=by conv=>lhs;simp only[RU]):Cl prog f [a,b,c] w k:=cT0 pr lv jn hf hb hn (he a b c w k) (hq▸h)
theorem cU4{f:FuncId}{fn:Func}{a b c d:Value}{w:World}{k:KV}{t:Value->Value->Value->Value->World->KV->PP}{q:Prop}(hf:prog.funcs[f]?=some fn)(h:q)(lv:Nat->List Nat:=V [])(jn:Nat->Option (List Nat):=J [])(hb:fn.body.isSome=true:=by kernel_rfl)(hn:Nat.ble 4 fn.ntmps=true:=by kernel_rfl)(he:∀a b c d w k,KT prog fn.ntmps lv jn (fn.body.getD .skip) (zw prog fn k) (oa [a,b,c,d]) w=t a b c d w k:=by intro a b c d w k;conv=>lhs;reduce)(hq:(t a b c d w k).out=q:=by conv=>lhs;simp only[RU]):Cl prog f [a,b,c,d] w k:=cT0 pr lv jn hf hb hn (he a b c d w k) (hq▸h)
theorem cU5{f:FuncId}{fn:Func}{a b c d e:Value}{w:World}{k:KV}{t:Value->Value->Value->Value->Value->World->KV->PP}{q:Prop}(hf:prog.funcs[f]?=some fn)(h:q)(lv:Nat->List Nat:=V [])(jn:Nat->Option (List Nat):=J [])(hb:fn.body.isSome=true:=by kernel_rfl)(hn:Nat.ble 5 fn.ntmps=true:=by kernel_rfl)(he:∀a b c d e w k,KT prog fn.ntmps lv jn (fn.body.getD .skip) (zw prog fn k) (oa [a,b,c,d,e]) w=t a b c d e w k:=by intro a b c d e w k;conv=>lhs;reduce)(hq:(t a b c d e w k).out=q:=by conv=>lhs;simp only[RU]):Cl prog f [a,b,c,d,e] w k:=cT0 pr lv jn hf hb hn (he a b c d e w k) (hq▸h)
section
attribute [local irreducible] World.drew undef aC aL bj bO faV ixV ixS ixA aW cr ixG unV cvI cvS slS slV lenV bW cy aR aQ aO aB isB Instr.build Instr.buildSlice Instr.lookup Instr.mapUpdate Instr.range Instr.next Instr.entry Instr.makeMap Instr.makeSlice convert binOp Instr.sliceAt Instr.makeInterface Builtin.append_ Builtin.copy_ Builtin.delete_ Builtin.clear_ Builtin.len_ Builtin.cap_ Value.cells
variable{a b c d e:Value}{w:World}{k:KV}
theorem c17:type_of% (λh=>cV Tryz.func17 (l:=[a,b]) (w:=w) (k:=k) h (V [(2,[13])]) (J [(7,[6])])):=λh=>cV Tryz.func17 h (V [(2,[13])]) (J [(7,[6])])
theorem c24:type_of% (λh=>cV Tryz.func24 (l:=[a]) (w:=w) (k:=k) h):=λh=>cV Tryz.func24 h
theorem c27:type_of% (λh=>cV Tryz.func27 (l:=[a,b]) (w:=w) (k:=k) h):=λh=>cV Tryz.func27 h
theorem c43:type_of% (λh=>cV Tryz.func43 (l:=[a,b]) (w:=w) (k:=k) h):=λh=>cV Tryz.func43 h
theorem c48:type_of% (λh=>cV Tryz.func48 (l:=[a,b]) (w:=w) (k:=k) h):=λh=>cV Tryz.func48 h
theorem c62:type_of% (λh=>cV Tryz.func62 (l:=[a,b,c]) (w:=w) (k:=k) h (V [(6,[1,2])]) (J [(11,[])])):=λh=>cV Tryz.func62 h (V [(6,[1,2])]) (J [(11,[])])
theorem c66:type_of% (λh=>cV Tryz.func66 (l:=[a]) (w:=w) (k:=k) h (V [(14,[68])]) (J [(6,[7]),(9,[28])])):=λh=>cV Tryz.func66 h (V [(14,[68])]) (J [(6,[7]),(9,[28])])
theorem c69:type_of% (λh=>cV Tryz.func69 (l:=[a,b,c]) (w:=w) (k:=k) h):=λh=>cV Tryz.func69 h
theorem c70:type_of% (λh=>cV Tryz.func70 (l:=[a]) (w:=w) (k:=k) h):=λh=>cV Tryz.func70 h
theorem c76:type_of% (λh=>cV Tryz.func76 (l:=[a,b,c]) (w:=w) (k:=k) h):=λh=>cV Tryz.func76 h
theorem c78:type_of% (λh=>cV Tryz.func78 (l:=[a,b,c,d]) (w:=w) (k:=k) h (V [(14,[15,16])]) (J [(12,[12])])):=λh=>cV Tryz.func78 h (V [(14,[15,16])]) (J [(12,[12])])
theorem c81:type_of% (λh=>cV Tryz.func81 (l:=[a,b,c,d,e]) (w:=w) (k:=k) h (V [(5,[63])])):=λh=>cV Tryz.func81 h (V [(5,[63])])
theorem c96:type_of% (λh=>cV Tryz.func96 (l:=[a]) (w:=w) (k:=k) h):=λh=>cV Tryz.func96 h
theorem c99:type_of% (λh=>cV Tryz.func99 (l:=[a]) (w:=w) (k:=k) h (V [(5,[3,15])])):=λh=>cV Tryz.func99 h (V [(5,[3,15])])
theorem c101:type_of% (λh=>cV Tryz.func101 (l:=[a,b]) (w:=w) (k:=k) h (V [(2,[8])])):=λh=>cV Tryz.func101 h (V [(2,[8])])
theorem c119:type_of% (λh=>cV Tryz.func119 (l:=[a,b]) (w:=w) (k:=k) h):=λh=>cV Tryz.func119 h
theorem c124:type_of% (λh=>cV Tryz.func124 (l:=[a]) (w:=w) (k:=k) h):=λh=>cV Tryz.func124 h
theorem c141:type_of% (λh=>cV Tryz.func141 (l:=[a,b]) (w:=w) (k:=k) h):=λh=>cV Tryz.func141 h
theorem c146:type_of% (λh=>cV Tryz.func146 (l:=[a,b,c]) (w:=w) (k:=k) h):=λh=>cV Tryz.func146 h
theorem c147:type_of% (λh=>cV Tryz.func147 (l:=[a]) (w:=w) (k:=k) h (V []) (J [(5,[])])):=λh=>cV Tryz.func147 h (V []) (J [(5,[])])
theorem c158:type_of% (λh=>cV Tryz.func158 (l:=[a]) (w:=w) (k:=k) h):=λh=>cV Tryz.func158 h
theorem c159:type_of% (λh=>cV Tryz.func159 (l:=[a,b]) (w:=w) (k:=k) h (V [(5,[21])])):=λh=>cV Tryz.func159 h (V [(5,[21])])
theorem c160:type_of% (λh=>cV Tryz.func160 (l:=[a]) (w:=w) (k:=k) h (V [(3,[3,7])])):=λh=>cV Tryz.func160 h (V [(3,[3,7])])
theorem c161:type_of% (λh=>cV Tryz.func161 (l:=[a,b,c]) (w:=w) (k:=k) h):=λh=>cV Tryz.func161 h
theorem c168:type_of% (λh=>cV Tryz.func168 (l:=[a,b]) (w:=w) (k:=k) h (V [(3,[6,15])]) (J [(12,[6])])):=λh=>cV Tryz.func168 h (V [(3,[6,15])]) (J [(12,[6])])
theorem c169:type_of% (λh=>cV Tryz.func169 (l:=[a]) (w:=w) (k:=k) h):=λh=>cV Tryz.func169 h
theorem c170:type_of% (λh=>cV Tryz.func170 (l:=[a]) (w:=w) (k:=k) h):=λh=>cV Tryz.func170 h
theorem c171:type_of% (λh=>cV Tryz.func171 (l:=[a]) (w:=w) (k:=k) h (V [(17,[8,67]),(9,[6]),(3,[20])]) (J [(15,[]),(26,[8]),(24,[8,12])])):=λh=>cV Tryz.func171 h (V [(17,[8,67]),(9,[6]),(3,[20])]) (J [(15,[]),(26,[8]),(24,[8,12])])
theorem c186:type_of% (λh=>cV Tryz.func186 (l:=[a,b]) (w:=w) (k:=k) h (V [(7,[6])])):=λh=>cV Tryz.func186 h (V [(7,[6])])
theorem c192:type_of% (λh=>cV Tryz.func192 (l:=[a,b]) (w:=w) (k:=k) h):=λh=>cV Tryz.func192 h
theorem c199:type_of% (λh=>cV Tryz.func199 (l:=[a,b,c]) (w:=w) (k:=k) h):=λh=>cV Tryz.func199 h
theorem c233:type_of% (λh=>cV Tryz.func233 (l:=[a,b,c,d]) (w:=w) (k:=k) h (V []) (J [(15,[12]),(19,[])])):=λh=>cV Tryz.func233 h (V []) (J [(15,[12]),(19,[])])
theorem c237:type_of% (λh=>cV Tryz.func237 (l:=[a,b]) (w:=w) (k:=k) h):=λh=>cV Tryz.func237 h
theorem c238:type_of% (λh=>cV Tryz.func238 (l:=[a,b]) (w:=w) (k:=k) h (V [(2,[11])])):=λh=>cV Tryz.func238 h (V [(2,[11])])
theorem c239:type_of% (λh=>cV Tryz.func239 (l:=[a,b]) (w:=w) (k:=k) h (V []) (J [(6,[]),(9,[7]),(11,[])])):=λh=>cV Tryz.func239 h (V []) (J [(6,[]),(9,[7]),(11,[])])
theorem c244:type_of% (λh=>cV Tryz.func244 (l:=[a,b]) (w:=w) (k:=k) h):=λh=>cV Tryz.func244 h
theorem c248:type_of% (λh=>cV Tryz.func248 (l:=[a,b]) (w:=w) (k:=k) h (V [(5,[5]),(2,[10])])):=λh=>cV Tryz.func248 h (V [(5,[5]),(2,[10])])
theorem c250:type_of% (λh=>cV Tryz.func250 (l:=[a]) (w:=w) (k:=k) h (V [(3,[3,13])])):=λh=>cV Tryz.func250 h (V [(3,[3,13])])
theorem c251:type_of% (λh=>cV Tryz.func251 (l:=[a]) (w:=w) (k:=k) h (V [(2,[0,3])])):=λh=>cV Tryz.func251 h (V [(2,[0,3])])
theorem c254:type_of% (λh=>cV Tryz.func254 (l:=[a]) (w:=w) (k:=k) h (V [(3,[3,7])])):=λh=>cV Tryz.func254 h (V [(3,[3,7])])
theorem c256:type_of% (λh=>cV Tryz.func256 (l:=[a,b]) (w:=w) (k:=k) h):=λh=>cV Tryz.func256 h
theorem c257:type_of% (λh=>cV Tryz.func257 (l:=[a]) (w:=w) (k:=k) h (V [(24,[110]),(18,[91]),(10,[56])])):=λh=>cV Tryz.func257 h (V [(24,[110]),(18,[91]),(10,[56])])
theorem c258:type_of% (λh=>cV Tryz.func258 (l:=[a]) (w:=w) (k:=k) h):=λh=>cV Tryz.func258 h
theorem c259:type_of% (λh=>cV Tryz.func259 (l:=[a]) (w:=w) (k:=k) h):=λh=>cV Tryz.func259 h
theorem c260:type_of% (λh=>cV Tryz.func260 (l:=[a,b]) (w:=w) (k:=k) h):=λh=>cV Tryz.func260 h
theorem c261:type_of% (λh=>cV Tryz.func261 (l:=[a,b]) (w:=w) (k:=k) h):=λh=>cV Tryz.func261 h
theorem c276:type_of% (λh=>cV Tryz.func276 (l:=[a]) (w:=w) (k:=k) h):=λh=>cV Tryz.func276 h
theorem c281:type_of% (λh=>cV Tryz.func281 (l:=[a]) (w:=w) (k:=k) h):=λh=>cV Tryz.func281 h
theorem c282:type_of% (λh=>cV Tryz.func282 (l:=[a]) (w:=w) (k:=k) h (V [(9,[49])]) (J [(6,[4])])):=λh=>cV Tryz.func282 h (V [(9,[49])]) (J [(6,[4])])
theorem c283:type_of% (λh=>cV Tryz.func283 (l:=[a,b]) (w:=w) (k:=k) h (V []) (J [(10,[])])):=λh=>cV Tryz.func283 h (V []) (J [(10,[])])
theorem c287:type_of% (λh=>cV Tryz.func287 (l:=[a,b]) (w:=w) (k:=k) h):=λh=>cV Tryz.func287 h
theorem c288:type_of% (λh=>cV Tryz.func288 (l:=[a]) (w:=w) (k:=k) h):=λh=>cV Tryz.func288 h
theorem c321:type_of% (λh=>cV Tryz.func321 (l:=[a,b]) (w:=w) (k:=k) h (V [(5,[5,17])])):=λh=>cV Tryz.func321 h (V [(5,[5,17])])
theorem c322:type_of% (λh=>cV Tryz.func322 (l:=[a,b]) (w:=w) (k:=k) h (V [(3,[5,9])]) (J [(7,[5])])):=λh=>cV Tryz.func322 h (V [(3,[5,9])]) (J [(7,[5])])
theorem c324:type_of% (λh=>cV Tryz.func324 (l:=[a]) (w:=w) (k:=k) h (V [(14,[3,67]),(9,[3,52]),(4,[3,39])])):=λh=>cV Tryz.func324 h (V [(14,[3,67]),(9,[3,52]),(4,[3,39])])
theorem c325:type_of% (λh=>cV Tryz.func325 (l:=[a]) (w:=w) (k:=k) h):=λh=>cV Tryz.func325 h
theorem c326:type_of% (λh=>cV Tryz.func326 (l:=[a]) (w:=w) (k:=k) h (V [(28,[124]),(22,[103]),(12,[71]),(5,[50])])):=λh=>cV Tryz.func326 h (V [(28,[124]),(22,[103]),(12,[71]),(5,[50])])
theorem c340:type_of% (λh=>cV Tryz.func340 (l:=[a,b]) (w:=w) (k:=k) h (V [(1,[])])):=λh=>cV Tryz.func340 h (V [(1,[])])
theorem c341:type_of% (λh=>cV Tryz.func341 (l:=[a,b,c]) (w:=w) (k:=k) h):=λh=>cV Tryz.func341 h
theorem c344:type_of% (λh=>cV Tryz.func344 (l:=[a,b]) (w:=w) (k:=k) h):=λh=>cV Tryz.func344 h
theorem c379:type_of% (λh=>cV Tryz.func379 (l:=[a,b]) (w:=w) (k:=k) h):=λh=>cV Tryz.func379 h
theorem c380:type_of% (λh=>cV Tryz.func380 (l:=[a,b]) (w:=w) (k:=k) h):=λh=>cV Tryz.func380 h
theorem c381:type_of% (λh=>cV Tryz.func381 (l:=[a,b]) (w:=w) (k:=k) h):=λh=>cV Tryz.func381 h
theorem c395:type_of% (λh=>cV Tryz.func395 (l:=[a,b]) (w:=w) (k:=k) h (V [(1,[0])])):=λh=>cV Tryz.func395 h (V [(1,[0])])
end
abbrev pv(b:Nat):Value:=.pointer (some ⟨b,0,none⟩)
theorem yy{w:World}{g n:Nat}{cs:Array Value}{t:TypeId}{k:Value->Prop}(h:w.heap[g]?=some (.cells cs t))(hn:cs.size=n)(hk:k (.agg cs)):Pu (aI w ⟨g,0,none⟩ n) k:=by rw[aa h hn,bB];exact hk
theorem Fmf{a b c:World}(h:Fm (λ_=>False) a b)(k:Fm (λ_=>False) b c):Fm (λ_=>False) a c:=h.trans k iT iT
theorem Fm.own{S:Nat->Prop}{a b c:World}(h:Fm (λ_=>False) a b)(k:Fm S b c)(hS:∀x,S x->a.heap.size<=x):Fm (λ_=>False) a c:=h.trans k iT (λx hx e=>by have:=hS x e;omega)
abbrev In(n:Int):Prop := -9223372036854775808<=n/\n<=9223372036854775807
theorem B38:ByteT prog 57 5 9:=sh Tryz.underlying57 Tryz.underlying5 Tryz.underlying9 kR
theorem Ai{c:Nat}(hc:c<2 ^ 32):∃x y:Value,unV .neg (uv (c &&& 1))=some x/\aC (TypeDesc.int .u32) .and (Value.int .u32 3988292384) x=some y/\aC (TypeDesc.int .u32) .xor (uv (c / 2)) y=some (uv (vy c)):=by
 rw[Nat.and_one_is_mod];unfold vy;have h2:c % 2=0\/c % 2=1:=oM;rcases h2 with h2|h2
 ·rw[h2];exact⟨uv 0,uv 0,rfl,rfl,by rw[nY _ oM oM];rfl⟩
 ·rw[h2,IY rfl];exact⟨uv 4294967295,uv 3988292384,rfl,rfl,by rw[nY _ oM oM]⟩
theorem oC:∀(k c:Nat),lH (k+1) c=vy (lH k c)
 | 0,c=>rfl
 | k+1,c=>by rw[lH,oC k];rfl
theorem rO(w:World){c:Nat}(hc:c<2 ^ 32):Cl prog 251 [uv c] w λr w'=>r=uv (lH 8 c)/\w'=w:=by
 refine c251 ?_;refine⟨λvs w2=>∃i:Nat,vs=[uv (lH i c),iv i]/\i<=8/\w2=w,λvs _=>(8 - nth vs 1).toNat,⟨0,rfl,oM,rfl⟩,?_⟩;rintro _ w2 cv ivv ⟨i,hvs,hi,rfl⟩;cases hvs;have hl:=nq i hc;by_cases hlt:i<8
 ·have e1:decide ((i:Int)<8)=true:=by rw[C4];omega
  have e2:IntKind.i64.wrap ((i:Int)+1)=((i+1:Nat):Int):=by rw[af]<;>omega
  obtain⟨x,y,h1,h2,h3⟩:=Ai hl;have s1:aC (TypeDesc.int .u32) .shr (uv (lH i c)) (Value.int .u64 1)=some (uv (lH i c / 2)):=yM _ (k:=1) oM .u64 rfl;have a1:aC (TypeDesc.int .u32) .and (uv (lH i c)) (Value.int .u32 1)=some (uv (lH i c &&& 1)):=vJ _ hl (b:=1) oM;simp only[RS,e1,s1,a1,h1,h2,h3,e2];exact⟨⟨i+1,by rw[oC],oM,tV⟩,by simp only[cK];omega⟩
 ·obtain rfl:i=8:=oM;have e1:decide (((8:Nat):Int)<8)=false:=sI;simp only[RS,e1];exact⟨tV,tV⟩
theorem wM{l:Bs}{i:Nat}{b:UInt8}(c:Nat)(h:l[i]?=some b):Cp c (l.take (i+1))=EH (Cp c (l.take i)) b:=by unfold Cp;rw[H8,h,KB];rfl
theorem jL(w:World)(l:Bs)(hl:l.length<=9223372036854775806):Cl prog 160 [stv l] w λr w'=>r=uv (crc l)/\w'=w:=by
 refine c160 ?_;simp only[RS,aq];refine⟨λvs w2=>∃i:Nat,vs=[uv (Cp 4294967295 (l.take i)),iv i]/\i<=l.length/\w2=w,λvs _=>(l.length - nth vs 1).toNat,⟨0,rfl,oM,rfl⟩,?_⟩;rintro _ w2 cv ivv ⟨i,hvs,hi,rfl⟩;cases hvs;have hc:=qz (l.take i) (c:=4294967295) oM;by_cases hlt:i<l.length
 ·have e1:decide ((i:Int)<(l.length:Int))=true:=by rw[C4];omega
  have e2:IntKind.i64.wrap ((i:Int)+1)=((i+1:Nat):Int):=by rw[af]<;>omega
  have hx:l[i]?=some l[i]:=C6 hlt;generalize l[i]=b at hx;have hst:=wM 4294967295 hx;generalize Cp 4294967295 (l.take i)=c at hc hst;rw[tQ] at hst;have hb:=b.toNat_lt;have s1:aC (TypeDesc.int .u32) .shr (uv c) (Value.int .u64 8)=some (uv (c / 256)):=yM _ (k:=8) oM .u64 rfl;have a1:aC (TypeDesc.int .u32) .and (uv c) (Value.int .u32 255)=some (uv (c % 256)):=by have:=vJ (TypeDesc.int .u32) hc (b:=255) oM;rw[show c &&& 255=c % 256 from Nat.and_two_pow_sub_one_eq_mod c 8] at this;exact this
  have q1:IntKind.u32.wrap (b.toNat:Int)=(b.toNat:Int):=jM oM;have x1:=nY (TypeDesc.int .u32) (a:=c % 256) (b:=b.toNat) oM oM;have hx2:c % 256 ^^^ b.toNat<2 ^ 32:=Ki oM oM;simp only[RS,e1,s1,a1,iU hx,bN,q1,x1];refine(rO w2 hx2).mono ?_;rintro _ _ ⟨rfl,rfl⟩;have x2:=nY (TypeDesc.int .u32) (a:=c / 256) (b:=lH 8 (c % 256 ^^^ b.toNat)) oM (nq 8 hx2);simp only[RS,x2,e2];exact⟨⟨i+1,by rw[hst],oM,tV⟩,by simp only[cK];omega⟩
 ·have hie:i=l.length:=oM;subst hie;have e1:decide (((l.length:Nat):Int)<(l.length:Int))=false:=sI;rw[IX] at hc ⊢;simp only[RS,e1,CR hc];exact⟨tV,tV⟩
theorem pZ(l:Bs){i:Nat}{b:UInt8}(h:l[i]?=some b)(n:Nat)(hn:i<n):(l.take i++List.replicate (n - i) (0:UInt8)).set i b=l.take (i+1)++List.replicate (n - (i+1)) (0:UInt8):=by have hl:=(E2.1 h).1;rw[JT _ _ (by rw[E5];omega),E5,JL oM,Jh];rw[(oM:n - i=(n - (i+1))+1),JK,JR,H8,h];simp
theorem bt(w:World){n:Int}(hn:In n)(k:Int):Cl prog 159 [iv n,iv k] w λr w'=>r=stv (eV n k)/\Fm (λ_=>False) w w':=by
 refine c159 ?_;unfold eV;cases h1:decide (k<1) with
 | true=>simp only[RS,h1,Jv,D8];exact⟨tV,Fm.refl _ _⟩
 | false=>
 cases h2:decide (8<k) with
 | true=>simp only[RS,h1,h2,Jv,Bool.or_true,D8];exact⟨tV,Fm.refl _ _⟩
 | false=>
 cases h3:decide (n<0) with
 | true=>simp only[RS,h1,h2,h3,Bool.or_true,D8];exact⟨tV,Fm.refl _ _⟩
 | false=>
 rw[C7] at h1 h2 h3;obtain⟨x,rfl⟩:=E9 (oM:0<=n);obtain⟨m,rfl⟩:=E9 (oM:0<=k);have g1:decide ((Int.ofNat m)<1)=false:=by rw[C7];exact h1
 have g2:decide (8<(Int.ofNat m))=false:=by rw[C7];exact h2
 have g3:decide ((Int.ofNat x)<0)=false:=by rw[C7];exact h3
 have hm:1<=m/\m<=8:=oM;have hx:x<=9223372036854775807:=by have:=hn.2;omega
 have g1':decide ((m:Int)<1)=false:=g1;have g2':decide (8<(m:Int))=false:=g2;have g3':decide ((x:Int)<0)=false:=g3;simp only[RS,g1',g2',g3',Bool.or_false,C8,H6];refine ag (BRow.make B38 w m oM) ?_;have hb1:=ay w (.cells (bc (List.replicate m 0)).toArray 5);have hf1:=Fm.alloc (λ_=>False) w (.cells (bc (List.replicate m 0)).toArray 5);have hg:=D9 w.heap.size;generalize hge:w.heap.size=g at hb1;generalize w.alloc (.cells (bc (List.replicate m 0)).toArray 5)=w1 at hb1 hf1
 replace hb1:BRow w1 g 5 (List.replicate m 0):=hb1
 simp only[RS];refine⟨λvs w2=>∃i:Nat,vs=[iv i]/\i<=m/\BRow w2 g 5 ((beN m x).take i++List.replicate (m - i) 0)/\Fm (λ_=>False) w w2,λvs _=>(m - nth vs 0).toNat,⟨0,rfl,oM,by simpa using hb1,hf1⟩,?_⟩;rintro _ w2 ivv ⟨i,hvs,hi,hb2,hf2⟩;cases hvs;by_cases hlt:i<m
 ·have e1:decide ((i:Int)<(m:Int))=true:=by rw[C4];omega
  have e2:IntKind.i64.wrap ((i:Int)+1)=((i+1:Nat):Int):=by rw[af]<;>omega
  have e3:IntKind.i64.wrap ((m:Int) - 1)=((m - 1:Nat):Int):=by rw[af]<;>omega
  have e4:IntKind.i64.wrap (((m - 1:Nat):Int) - i)=((m - 1 - i:Nat):Int):=by rw[af]<;>omega
  have e5:IntKind.i64.wrap (8*((m - 1 - i:Nat):Int))=((8*(m - 1 - i):Nat):Int):=by rw[af]<;>omega
  have e6:=yL x (8*(m - 1 - i)) oM (TypeDesc.int .i64) .i64;have hget:=vQ m x i hlt;have hpw:x / 2 ^ (8*(m - 1 - i))=x / 256 ^ (m - 1 - i):=by rw[Nat.pow_mul]
  have hval:IntKind.u8.wrap ((x / 2 ^ (8*(m - 1 - i)):Nat):Int)=(((UInt8.ofNat (x / 256 ^ (m - 1 - i) % 256)).toNat:Nat):Int):=by rw[lD,fk oM,hpw]
  generalize UInt8.ofNat (x / 256 ^ (m - 1 - i) % 256)=b at hget hval;have hix:ixV 1 (.slice (some ⟨g,0,none⟩) m m) (iv i)=some (.pointer (some ⟨g,i,none⟩)):=by rw[dT hlt,aA];simp
  simp only[RS,e1,e3,e4,e5,e6,bN,hval,hix];refine BRow.put hb2 (b:=b) (by simp[aH];omega) ?_;intro w3 hb3 hs3 hf3;rw[pZ _ hget m hlt] at hb3;simp only[RS,e2];exact⟨⟨i+1,rfl,oM,hb3,Fm.own hf2 hf3 (by rintro y rfl;omega)⟩,by simp only[ba];omega⟩
 ·obtain rfl:i=m:=oM;have e1:decide ((i:Int)<(i:Int))=false:=sI;have hfull:(beN i x).take i++List.replicate (i - i) (0:UInt8)=beN i x:=by rw[Jh,G0 (by rw[aH];exact D9 _)];simp
  rw[hfull] at hb2;simp only[RS,e1];refine ag (BRow.conv B38 hb2 (o:=0) (n:=i) (by rw[aH];omega) i) ?_;refine⟨?_,hf2⟩;rw[J6,G0 (by rw[aH];exact D9 _)]
theorem ku{α β:Type}(f:β->α->β)(b:β){l:List α}{i:Nat}{x:α}(hi:l[i]?=some x):(l.take (i+1)).foldl f b=f ((l.take i).foldl f b) x:=by rw[H8,hi,KB];rfl
theorem cX(w:World)(l:Bs)(hl:l.length<=9223372036854775806):Cl prog 254 [stv l] w λr w'=>r=iv (ofN l:Nat)/\w'=w:=by
 refine c254 ?_;simp only[RS,aq];refine⟨λvs w2=>∃i:Nat,vs=[qv (BH (l.take i)),iv i]/\i<=l.length/\w2=w,λvs _=>(l.length - nth vs 1).toNat,⟨0,rfl,oM,rfl⟩,?_⟩;rintro _ w2 cv ivv ⟨i,hvs,hi,rfl⟩;cases hvs;have hc:BH (l.take i)<2 ^ 64:=by rw[xR];omega
 by_cases hlt:i<l.length
 ·have e1:decide ((i:Int)<(l.length:Int))=true:=by rw[C4];omega
  have e2:IntKind.i64.wrap ((i:Int)+1)=((i+1:Nat):Int):=by rw[af]<;>omega
  have hx:l[i]?=some l[i]:=C6 hlt;generalize l[i]=b at hx;have hst:BH (l.take (i+1))=(BH (l.take i)*256+b.toNat) % 2 ^ 64:=ku _ _ hx;generalize BH (l.take i)=c at hc hst;have hb:=b.toNat_lt;have q1:IntKind.u64.wrap (b.toNat:Int)=(b.toNat:Int):=eK oM;have o1:=Fc (TypeDesc.int .u64) (a:=c*256 % 2 ^ 64) (b:=b.toNat) oM oM oM;simp only[RS,e1,Dn,iU hx,bN,q1,o1,e2];refine⟨⟨i+1,?_,oM,tV⟩,by simp only[cK];omega⟩;rw[hst];congr 3;omega
 ·have hie:i=l.length:=oM;subst hie;have e1:decide (((l.length:Nat):Int)<(l.length:Int))=false:=sI;rw[IX] at hc ⊢;have q1:IntKind.i64.wrap ((BH l % 2 ^ 63:Nat):Int)=((BH l % 2 ^ 63:Nat):Int):=dI oM;simp only[RS,e1,DD _ hc,bN,q1];refine⟨?_,tV⟩;rw[ofN,xR];congr 2;omega
end Go.Proofs.YtmdmffeoehfjgaaGreatDoor
namespace Go.Proofs
open Go.RowKit Go.Shelf Go.Sort
def Tryz.lays105_ren:Go.Shelf.Ren:=⟨λ|105=>63|212=>148|99=>149|165=>150|166=>151|170=>152|169=>153|263=>242|264=>243|206=>244|240=>245|241=>246|276=>316|277=>317|n=>n,λ|9=>9|3=>3|4=>4|20=>20|0=>0|46=>247|109=>248|5=>5|72=>253|76=>257|51=>263|146=>340|53=>342|148=>343|70=>251|37=>57|75=>256|127=>345|164=>388|80=>259|n=>n,λ|n=>n⟩
theorem Tryz.lays105:Go.Proofs.Lays.n105 prog Tryz.lays105_ren:=by
 constructor
 all_goals first|kernel_rfl|(intro w;kernel_rfl)
def Tryz.j6:Go.Shelf.Ren:=⟨λ|160=>345|232=>395|231=>394|227=>396|234=>398|233=>397|236=>400|235=>399|228=>425|271=>428|151=>427|197=>426|120=>444|152=>443|260=>442|137=>451|119=>452|224=>453|225=>454|217=>456|266=>457|n=>n,λ|9=>9|4=>4|3=>3|5=>5|117=>458|116=>457|0=>0|124=>461|21=>21|105=>483|46=>247|119=>501|139=>504|138=>503|n=>n,λ|3=>1|4=>2|n=>n⟩
theorem Tryz.r7:Go.Proofs.Lays.n160 prog Tryz.j6:=by
 constructor
 all_goals first|kernel_rfl|(intro w;kernel_rfl)
def Tryz.fF:Go.Shelf.Ren:=⟨λ|22=>416|29=>438|30=>439|36=>450|17=>455|n=>n,λ|24=>66|9=>9|3=>3|4=>4|0=>0|n=>n,λ|n=>n⟩
theorem Tryz.j9:Go.Proofs.Lays2.n22 prog Tryz.fF:=by
 constructor
 all_goals first|kernel_rfl|(intro w;kernel_rfl)
theorem Tryz.bldExtra:Builder.Extra prog Tryz.lays105_ren where
 sizeBuilder:=kR
 liesBuilder:=kR
 t5:=Tryz.lays105.t5
 a5:=Tryz.lays105.a5
 z5:=Tryz.lays105.z5
 v5:=Tryz.lays105.v5
 infoByte:=kR
 cellsByte:=kR
 sizeByte:=kR
 neB5:=dC
namespace YtmdmffeoehfjgaaGreatDoor
open Go.Al Go.Proofs
theorem Fm.l9{B:Nat}{w w':World}(h:Below B w w'):Fm (λx=>B<=x) w w':=⟨h.os,h.tape,h.output,h.size,λb hb hs=>h.block b oM⟩
def Bld(w:World)(b:Nat)(l:Bs):Prop:=Lib.IsBuilderF 253 5 b b (bc l) w
theorem Bld.lt{w:World}{b:Nat}{l:Bs}(h:Bld w b l):b<w.heap.size:=by rcases h with h|h<;>exact h.lt
theorem Bld.new{w:World}{b:Nat}(h:w.heap[b]?=some (.cells #[.pointer none,.slice none 0 0] 253)):Bld w b []:=Lib.IsBuilderF.of (.inl ⟨D9 _,_,h,World.ownsRow_nil _ _ _ _,by simp[Value.ownBlock]⟩)
theorem Bld.keep{w w':World}{b:Nat}{l:Bs}(h:Bld w b l)(hf:Fm (λ_=>False) w w'):Bld w' b l:=by
 have key:∀p,Lib.BuilderAtF 253 5 b b p (bc l) w->Lib.BuilderAtF 253 5 b b p (bc l) w':=by
  rintro p ⟨h1,v,h2,h3,h4⟩;refine⟨h1,v,hf.heap h2 id,?_,h4⟩;obtain⟨g1,g2⟩:=h3;refine⟨g1,?_⟩;rcases g2 with g2|⟨g,cap,cur,fz,r1,r2,r3,r4⟩
  ·exact .inl g2
  ·exact .inr ⟨g,cap,cur,fz,r1,r2,hf.heap r3 id,r4⟩
 rcases h with h|h
 ·exact .inl (key _ h)
 ·exact .inr (key _ h)
theorem bR{w:World}{b:Nat}{l:Bs}(h:Bld w b l)(s:Bs)(hlen:l.length+s.length<=140737488355328):Cl prog 151 [pv b,stv s] w λ_ w'=>Bld w' b (l++s)/\Fm (λx=>b<=x) w w':=by have c:Calls prog 151 #[pv b,stv s] w λe w'=>e=.returned (.tuple #[.int .i64 (str s).size,.nilIface])/\(Lib.BuilderAtF 253 5 b b (pv b) (bc l++Lib.strCells (str s)) w'/\Below b w w'/\Lib.OthersKept 5 (some b) w w'):=Any.Builder_WriteString_k (ρ:=Tryz.lays105_ren) { Tryz.lays105 with } Tryz.bldExtra b b (bc l) (str s) w h (by rw[bU,aq];exact hlen) (Nat.le_of_lt h.lt);refine eY c λe w' ⟨h1,h2,h3,_⟩=>⟨_,h1,?_,Fm.l9 h3⟩;rw[show Lib.strCells (str s)=bc s from rfl,<- dp] at h2;exact .inr h2
theorem wA{w:World}{b:Nat}{l:Bs}(h:Bld w b l):Cl prog 152 [pv b] w λv w'=>v=iv l.length/\w'=w:=by have c:Calls prog 152 #[pv b] w λe w'=>e=.returned (.int .i64 (bc l).length)/\w'=w:=Any.Builder_Len_f (ρ:=Tryz.lays105_ren) { Tryz.lays105 with } b b (bc l) w h;rw[bU] at c;exact eY c λe w' ⟨h1,h2⟩=>⟨_,h1,rfl,h2⟩
theorem eX{w:World}{b:Nat}{l:Bs}(h:Bld w b l):Cl prog 153 [pv b] w λv w'=>v=stv l/\Bld w' b l/\Fm (λx=>b<=x) w w':=by have c:Calls prog 153 #[pv b] w λe w'=>e=.returned (.string ⟨l.toArray⟩)/\(Lib.IsBuilderF 253 5 b b (Lib.byteCells l) w'/\Below b w w'/\Lib.OthersKept 5 (some b) w w'):=Any.Builder_String_any_k (ρ:=Tryz.lays105_ren) { Tryz.lays105 with } Tryz.bldExtra b b l w h (Nat.le_of_lt h.lt);exact eY c λe w' ⟨h1,h2,h3,_⟩=>⟨_,h1,rfl,h2,Fm.l9 h3⟩
theorem bT(w:World)(n:Nat)(hn:n<=140737488355328):Cl prog 63 [stv [0],iv n] w λv w'=>v=stv (aG n)/\Fm (λ_=>False) w w':=by
 have c:Calls prog 63 #[stv [0],iv n] w λe w'=>e=.returned (.string ⟨(Lib.repeatL (str [0]).data.toList n).toArray⟩)/\Below w.heap.size w w':=Any.strings_Repeat (ρ:=Tryz.lays105_ren) Tryz.lays105 Tryz.bldExtra (str [0]) n w oM (by rw[aq];simpa using hn);have e:Lib.repeatL (str [0]).data.toList n=aG n:=by have:=Lib.repeatL_replicate 0 1 n;rw[IZ] at this;exact this
 rw[e] at c;exact eY c λe w' ⟨h1,h2⟩=>⟨_,h1,rfl,Fm.iF h2 _⟩
theorem de:∀(l:Bs),l.dropWhile (· ==(0:UInt8))=[]↔l=aG l.length
 | []=>by simp[aG]
 | b::l=>by
  rw[List.dropWhile_cons];cases hb:(b ==(0:UInt8)) with
  | true=>
   have:b=0:=by simpa using hb
   simp only[if_true,de l,G2,aG,JK];rw[this];simp
  | false=>
   have:b≠0:=by simpa using hb
   simp[aG,JK,this]
theorem Ba(l:Bs):Lib.trimB l 0=[]↔l=aG l.length:=by
 unfold Lib.trimB Lib.trimLeftB Lib.trimRightB;rw[de];constructor
 ·intro h;have h2:(l.reverse.dropWhile (· ==(0:UInt8)))=aG (l.reverse.dropWhile (· ==(0:UInt8))).length:=by have:=IR List.reverse h;rw[List.reverse_reverse] at this;rw[this];simp[aG]
  cases hd:l.reverse.dropWhile (· ==(0:UInt8)) with
  | nil=>have:=(de l.reverse).1 hd;have:=IR List.reverse this;rw[List.reverse_reverse] at this;rw[this];simp[aG]
  | cons x t=>
   rw[hd] at h2;have hx:x=0:=by have:=IR List.head? h2;simp[aG,JK] at this;exact this
   have:=List.head?_dropWhile_not (p:=(· ==(0:UInt8))) (l:=l.reverse);rw[hd] at this;simp[hx] at this
 ·intro h;have h2:l.reverse=aG l.reverse.length:=by rw[h];simp[aG]
  rw[(de l.reverse).2 h2]
  rfl
theorem yZ(w:World)(l:Bs)(hl:l.length<=9223372036854775807):Cl prog 345 [stv l,stv [0]] w λv w'=>(∃t,v=stv t/\(t=[]↔l=aG l.length))/\Fm (λ_=>False) w w':=by
 have c:Calls prog 345 #[stv l,stv [0]] w λe w'=>e=.returned (.string ⟨(Lib.trimB (str l).data.toList 0).toArray⟩)/\(w'=w\/w'=w.drew):=Any.strings_Trim_one (ρ:=Tryz.j6) Tryz.r7 (str l) 0 dC w (by rw[aq];exact hl);refine eY c λe w' ⟨h1,h2⟩=>⟨_,h1,⟨_,rfl,Ba l⟩,?_⟩;rcases h2 with rfl|rfl
 ·exact Fm.refl _ _
 ·exact Fm.drew _ _
theorem E22:ElemT prog 66 9 1 16:=bG Tryz.underlying66 kR
theorem GF(w:World):(Instr.buildSlice 66 0 #[]).run prog w=.ok (.slice (some ⟨w.heap.size,0,none⟩) 0 0) (w.alloc (.cells #[] 9)):=kR
theorem rI(xs:List Bs):∀u∈xs.map stv,u.oneCell'=true:=by
 intro u hu;obtain⟨x,_,rfl⟩:=E8.1 hu
 rfl
theorem dh{w:World}{v:Value}{xs:List Bs}(h:CellsAt w v xs.length 1 (xs.map stv))(hs:xs.length*16<=140737488355328):Cl prog 232 [v] w λr w'=>w'.ownsRow w.heap.size 9 1 r xs.length (xs.map stv)/\Fm (λ_=>False) w w':=by
 refine c232 ?_;obtain⟨⟨a,c,hv,h1,h2,h3,h4⟩,hl⟩:=id h;cases a with
 | none=>subst hv;obtain⟨e1,e2⟩:=h3 rfl;have e3:aC (TypeDesc.slice 9) .eql (.slice none xs.length c) (.slice none 0 0)=some (.bool true):=rfl;simp only[RS,e3];have:xs=[]:=H0 e1;subst this;exact⟨World.ownsRow_nil _ _ _ _,Fm.refl _ _⟩
 | some ad=>
  subst hv;have e3:aC (TypeDesc.slice 9) .eql (.slice (some ad) xs.length c) (.slice none 0 0)=some (.bool false):=rfl;simp only[RS,e3];refine ag (GF w) ?_;have ho2:=pA (w:=w) (e:=9) (l:=[]) (by simp[maxLen]) (D9 _);have hf2:=Fm.alloc (λ_=>False) w (.cells #[] 9)
  replace ho2:(w.alloc (.cells #[] 9)).ownsRow w.heap.size 9 1 (.slice (some ⟨w.heap.size,0,none⟩) 0 0) 0 []:=ho2
  generalize w.alloc (.cells #[] 9)=w2 at ho2 hf2;obtain⟨lv,w3,hr3,ho3,hf3⟩:=cC E22 oM ho2 (h.keep hf2 iT) (rI xs) 66 (by unfold maxLen;omega) oM hf2.size;refine ag hr3 ?_;rw[E7,H9] at ho3;exact⟨ho3,Fm.own hf2 hf3 (λy hy=>by have:=aP ho2 y hy;omega)⟩
theorem Fm.setCells(b:Nat):∀(vs:List Value) (o:Nat) (w:World),Fm (·=b) w (w.setCells b o vs)
 | [],_,w=>Fm.refl _ _
 | v::vs,o,w=>(Fm.setCell (S:=(·=b)) w ⟨b,o,none⟩ v rfl).trans (Fm.setCells b vs (o+1) _) iT iT
theorem oy{w:World}{b o n cap:Nat}{cs vs:List Value}(hcs:∀j,j<n->(w.cell? ⟨b,j,none⟩).isSome=true)(hold:∀j u,cs[j]?=some u->w.cell? ⟨b,j,none⟩=some u)(hcl:cs.length=n)(ho:o+vs.length<=n)(hn:n<=cap)(hcap:cap<=maxLen):
  CellsAt (w.setCells b o vs) (.slice (some ⟨b,0,none⟩) n cap) n 1 (cs.take o++vs++cs.drop (o+vs.length)):=by
 refine⟨⟨_,cap,rfl,hn,hcap,(λe=>by cases e),λj u hj=>⟨_,rfl,?_⟩⟩,by simp;omega⟩;rw[aA,E7];have hto:(cs.take o).length=o:=by rw[E5];omega
 by_cases h1:j<o
 ·rw[World.cell?_setCells_out b vs o w ⟨b,j,none⟩ (λ_ _=>.inl h1)];apply hold;rw[G7,Jb (by rw[hto];exact h1),Jz,IY h1] at hj;exact hj
 ·by_cases h2:j<o+vs.length
  ·have:=World.cell?_setCells_in b vs o w (λq hq=>hcs _ oM) (j - o) oM;rw[(oM:o+(j - o)=j)] at this;rw[this];rw[G7,I1 (by rw[hto];omega),hto,Jb oM,C6 oM] at hj;exact hj
  ·rw[World.cell?_setCells_out b vs o w ⟨b,j,none⟩ (λ_ _=>.inr (by simpa using h2))];apply hold;rw[G7,I1 (by rw[hto];omega),hto,I1 oM,List.getElem?_drop] at hj;rw[<- hj];congr 1;omega
def kB(xs:List Bs)(i:Nat)(x:Bs):List Bs:=xs.take i++[x]++xs.drop i
theorem gY{xs:List Bs}{i:Nat}(x:Bs)(hi:i<=xs.length):(kB xs i x).length=xs.length+1:=by simp only[kB,C5,E5,G4,G2,Ja];omega
theorem kC{w:World}{base:Nat}{v:Value}{xs:List Bs}(h:w.ownsRow base 9 1 v xs.length (xs.map stv)){i:Nat}(hi:i<=xs.length){vb:Nat}{x:Bs}(hv:w.heap[vb]?=some (.cells #[stv x] 9))(hne:v.ownBlock≠some vb)(hs:(xs.length+1)*16<=140737488355328)(hb:base<=w.heap.size):
  Cl prog 416 [v,iv i,.slice (some ⟨vb,0,none⟩) 1 1] w λr w'=>∃a c,r=.slice a (xs.length+1) c/\CellsAt w' r (xs.length+1) 1 ((kB xs i x).map stv)/\(∀g,blockOf r=some g->base<=g)/\Fm (λy=>base<=y) w w':=by
 have hvs:∀(j:Nat) (u:Value),([stv x]:List Value)[j]?=some u->w.cell? ⟨vb,0+j,none⟩=some u:=by intro j u hj;rw[E7,ab hv];simpa using hj
 have h1v:∀u∈([stv x]:List Value),u.oneCell'=true:=by intro u hu;simp at hu;subst hu;rfl
 have hml:xs.length+1<=maxLen:=by unfold maxLen;omega
 have hins:(kB xs i x).map stv=(xs.map stv).take i++[stv x]++(xs.map stv).drop i:=by simp[kB,List.map_take,List.map_drop]
 have hsum:∀(w':World) (g:Nat),Fm (λ_=>False) w w'->True:=λ_ _ _=>trivial;have hnew:∀(cs:Array Value),cs.toList.take (xs.length+1)=(kB xs i x).map stv->∀c,xs.length+1<=c->c<=maxLen->∀w':World,w'.heap[w.heap.size]?=some (.cells cs 9)->CellsAt w' (.slice (some ⟨w.heap.size,0,none⟩) (xs.length+1) c) (xs.length+1) 1 ((kB xs i x).map stv):=by
  intro cs hcs c hc1 hc2 w' hw';refine⟨⟨_,c,rfl,hc1,hc2,(λe=>by cases e),λj u hj=>⟨_,rfl,?_⟩⟩,by rw[H2,gY x hi,IZ]⟩;rw[aA,E7,ab hw'];rw[<- hcs,Jz] at hj;split at hj
  ·simpa using hj
  ·cases hj
 rcases h.2 with⟨rfl,hn⟩|⟨g,cap,cur,rfl,hbg,hgg,hnc,hcm,hcs,htake⟩
 ·have hx0:xs=[]:=H0 hn;subst hx0;obtain rfl:i=0:=by simpa using hi
  have c:=Any2.slices_Insert_string_end_grow (ρ:=Tryz.fF) Tryz.j9 none 0 0 vb 0 1 1 [] [stv x] w oM oM oM oM rfl rfl (λ_=>rfl) (λa ha=>by cases ha) hvs h1v;have hge:=grownCap_ge w (0+1) 0 9;have hle:=grownCap_le_maxLen w (0+1) 0 9 (by unfold maxLen;omega);refine eY (args:=[.slice none 0 0,iv (0:Nat),.slice (some ⟨vb,0,none⟩) 1 1]) c λe w' ⟨h1,h2⟩=>⟨_,h1,_,_,rfl,?_,?_,?_⟩
  ·rw[h2];refine hnew _ ?_ _ hge hle _ (ay _ _);simp[kB]
  ·intro g hg;cases hg;exact hb
  ·rw[h2];exact(Fm.drew _ w).trans (Fm.alloc _ w.drew _) (λ_ _ e=>e) (λ_ _ e=>e)
 ·rw[IZ] at hcs htake;have hcell:∀j,j<cap->w.cell? ⟨g,j,none⟩=cur[j]? := λj _=>ab hgg;have hsome:∀j,j<cap->(w.cell? ⟨g,j,none⟩).isSome=true:=by intro j hj;rw[hcell j hj,KA oM];rfl
  have hold:∀(j:Nat) (u:Value),(xs.map stv)[j]?=some u->w.cell? ⟨g,0+j,none⟩=some u:=by
   intro j u hj;rw[E7,ab hgg];rw[<- htake,Jz] at hj;split at hj
   ·simpa using hj
   ·cases hj
  have hvbg:vb≠g:=λe=>hne (by rw[e];rfl);have hglt:=aj hgg;by_cases hroom:xs.length+1<=cap
  ·by_cases hie:i<xs.length
   ·have c:=Any2.slices_Insert_string_shift (ρ:=Tryz.fF) Tryz.j9 g 0 xs.length cap i vb 0 1 1 (xs.map stv) [stv x] w hie oM hroom (by unfold maxLen at hcm;omega) hvbg sI rfl hold (λj hj=>by rw[E7];exact hsome j oM) (λj hj=>dt hgg _) hvs (rI xs) h1v 9 9 1 cur.size (by simp[World.shape?,hv]) (by simp[World.shape?,hgg]) oM (dt hv _) (dt hv _);refine eY (args:=[.slice (some ⟨g,0,none⟩) xs.length cap,iv i,.slice (some ⟨vb,0,none⟩) 1 1]) c λe w' ⟨h1,h2⟩=>⟨_,h1,_,_,rfl,?_,?_,?_⟩
    ·rw[h2,E7,E7];have hA:=oy (w:=w.drew) (b:=g) (o:=i+1) (n:=xs.length+1) (cap:=cap) (cs:=(xs.map stv)++[cur[xs.length]!]) (vs:=(xs.map stv).drop i) (λj hj=>hsome j oM) (λj u hj=>by
      rw[bE];rw[List.getElem?_append] at hj;split at hj
      ·have:=hold j u hj;rwa [E7] at this
      ·rename_i hjl;rw[H2] at hjl;have hj0:j=xs.length:=by have:=(E2.1 hj).1;simp at this;omega
       subst hj0;rw[hcell _ oM,KA oM];simp at hj;rw[<- hj,getElem!_pos cur xs.length oM]) sI (by simp;omega) hroom hcm
     have hB:=oy (w:=w.drew.setCells g (i+1) ((xs.map stv).drop i)) (b:=g) (o:=i) (n:=xs.length+1) (cap:=cap) (cs:=((xs.map stv)++[cur[xs.length]!]).take (i+1)++(xs.map stv).drop i++((xs.map stv)++[cur[xs.length]!]).drop (i+1+((xs.map stv).drop i).length)) (vs:=[stv x]) (λj hj=>by
      obtain⟨⟨a,c',he,_,_,_,hh⟩,hlen⟩:=hA;cases he;rw[IZ] at hlen;have:j<(((xs.map stv)++[cur[xs.length]!]).take (i+1)++(xs.map stv).drop i++((xs.map stv)++[cur[xs.length]!]).drop (i+1+((xs.map stv).drop i).length)).length:=by rw[hlen];exact hj
      obtain⟨ad,he,hc⟩:=hh j _ (C6 this);cases he;rw[aA,E7] at hc;rw[hc];rfl) (λj u hj=>by
      obtain⟨⟨a,c',he,_,_,_,hh⟩,hlen⟩:=hA;cases he;obtain⟨ad,he,hc⟩:=hh j u hj;cases he;rw[aA,E7] at hc;exact hc) (by have:=hA.len;rw[IZ] at this;exact this) (by simp;omega) hroom hcm
     have hfin:(((xs.map stv)++[cur[xs.length]!]).take (i+1)++(xs.map stv).drop i++((xs.map stv)++[cur[xs.length]!]).drop (i+1+((xs.map stv).drop i).length)).take i++[stv x]++(((xs.map stv)++[cur[xs.length]!]).take (i+1)++(xs.map stv).drop i++((xs.map stv)++[cur[xs.length]!]).drop (i+1+((xs.map stv).drop i).length)).drop (i + [stv x].length)=(kB xs i x).map stv:=by
      rw[hins];have q1:(((xs.map stv)++[cur[xs.length]!]).take (i+1)).length=i+1:=by simp;omega
      have q2:(((xs.map stv)++[cur[xs.length]!]).drop (i+1+((xs.map stv).drop i).length))=[]:=JA (by simp;omega);rw[q2,H1,IU oM,List.take_take,JL oM,IU (by simp;omega)];rw[show i + [stv x].length=(((xs.map stv)++[cur[xs.length]!]).take (i+1)).length by rw[q1];rfl,List.drop_left]
     rw[hfin] at hB;exact hB
    ·intro y hy;cases hy;exact hbg
    ·rw[h2];have hd:=(Fm.drew (λy=>base<=y) w);refine hd.trans (((Fm.setCells g _ _ w.drew).trans (Fm.setCells g _ _ _) (λ_ _ e=>e) (λ_ _ e=>e)).mono (T:=λy=>base<=y) (λy _ e=>by rw[e];exact hbg)) (λ_ _ e=>e) (λ_ _ e=>e)
   ·obtain rfl:i=xs.length:=oM;have c:=Any2.slices_Insert_string_end_room (ρ:=Tryz.fF) Tryz.j9 g 0 xs.length cap vb 0 1 1 [stv x] w oM hroom (by unfold maxLen at hcm;omega) rfl (λj hj=>hsome _ oM) (λj hj=>dt hgg _) hvs h1v;refine eY (args:=[.slice (some ⟨g,0,none⟩) xs.length cap,iv xs.length,.slice (some ⟨vb,0,none⟩) 1 1]) c λe w' ⟨h1,h2⟩=>⟨_,h1,_,_,rfl,?_,?_,?_⟩
    ·rw[h2,E7];refine⟨⟨_,cap,rfl,hroom,hcm,(λe=>by cases e),λj u hj=>⟨_,rfl,?_⟩⟩,by rw[H2,gY x hi,IZ]⟩;rw[aA,E7];rw[hins,G0 sI,JA sI,H1] at hj;by_cases hjl:j<xs.length
     ·rw[World.cell?_setCells_out g _ _ w ⟨g,j,none⟩ (λ_ _=>.inl hjl)];rw[Jb (by simpa using hjl)] at hj;have:=hold j u hj;rwa [E7] at this
     ·have hj0:j=xs.length:=by have:=(E2.1 hj).1;simp at this;omega
      subst hj0;have:=World.cell?_setCells_in g [stv x] xs.length w (λq hq=>hsome _ (by simp at hq;omega)) 0 sI;rw[Jt] at this;rw[this];rw[I1 sI] at hj;simpa using hj
    ·intro y hy;cases hy;exact hbg
    ·rw[h2];exact(Fm.setCells g _ _ w).mono (λy _ e=>by rw[e];exact hbg)
  ·have hcap:cap=xs.length:=oM;by_cases hie:i<xs.length
   ·have c:=Any2.slices_Insert_string_grow (ρ:=Tryz.fF) Tryz.j9 g 0 xs.length cap i vb 0 1 1 (xs.map stv) [stv x] w hie oM hnc oM hs sI rfl hold hvs (rI xs) h1v;have hge:=grownCap_ge w (xs.length+1) cap 9;have hle:=grownCap_le_maxLen w (xs.length+1) cap 9 hml;refine eY (args:=[.slice (some ⟨g,0,none⟩) xs.length cap,iv i,.slice (some ⟨vb,0,none⟩) 1 1]) c λe w' ⟨h1,h2⟩=>⟨_,h1,_,_,rfl,?_,?_,?_⟩
    ·replace h2:w'=((((w.alloc (.cells (((xs.map stv).take i).toArray++Builtin.zeroCells (Value.string ⟨#[]⟩).cells (xs.length+1 - i)++Builtin.zeroCells (Value.string ⟨#[]⟩).cells (grownCap w (xs.length+1) cap 9 - (xs.length+1))) 9)).drew.setCells w.heap.size i [stv x]).drew).setCells w.heap.size (i+1) ((xs.map stv).drop i)):=h2
     rw[h2];generalize hC:((((xs.map stv).take i).toArray++Builtin.zeroCells (Value.string ⟨#[]⟩).cells (xs.length+1 - i)++Builtin.zeroCells (Value.string ⟨#[]⟩).cells (grownCap w (xs.length+1) cap 9 - (xs.length+1))))=C;have hCt:C.toList.take i=(xs.map stv).take i:=by rw[<- hC];simp only[Array.toList_append];rw[G7,IU (by simp;omega),G0 (by simp;omega)]
     have hCs:xs.length+1<=C.size:=by rw[<- hC];simp[Builtin.zeroCells,Value.cells];omega
     have hn0:=ay w (.cells C 9);generalize w.alloc (.cells C 9)=w1 at hn0;have hsome1:∀j,j<xs.length+1->(w1.cell? ⟨w.heap.size,j,none⟩).isSome=true:=λj hj=>by rw[ab hn0,KA oM];rfl
     have hin1:=World.cell?_setCells_in w.heap.size [stv x] i w1.drew (λq hq=>hsome1 _ (by simp at hq;omega)) 0 sI;have hin2:∀j,j<((xs.map stv).drop i).length->(((w1.drew.setCells w.heap.size i [stv x]).drew).setCells w.heap.size (i+1) ((xs.map stv).drop i)).cell? ⟨w.heap.size,i+1+j,none⟩=((xs.map stv).drop i)[j]? := λj hj=>by rw[World.cell?_setCells_in w.heap.size ((xs.map stv).drop i) (i+1) _ (λq hq=>by rw[bE,World.cell?_setCells_out w.heap.size [stv x] i _ ⟨w.heap.size,i+1+q,none⟩ (λ_ _=>.inr (by simp<;>omega)),bE];exact hsome1 _ (by simp at hq;omega)) j hj,C6 hj]
     refine⟨⟨_,_,rfl,hge,hle,(λe=>by cases e),λj u hj=>⟨_,rfl,?_⟩⟩,by rw[H2,gY x hi,IZ]⟩;rw[aA,E7];rw[hins,G7] at hj;have hti:((xs.map stv).take i).length=i:=by simp;omega
     by_cases hj1:j<i
     ·rw[World.cell?_setCells_out w.heap.size _ (i+1) _ ⟨w.heap.size,j,none⟩ (λ_ _=>.inl (by simp;omega)),bE,World.cell?_setCells_out w.heap.size _ i _ ⟨w.heap.size,j,none⟩ (λ_ _=>.inl hj1),bE,ab hn0];rw[Jb oM,<- hCt,Jz,IY hj1] at hj;simpa using hj
     ·by_cases hj2:j=i
      ·subst hj2;rw[World.cell?_setCells_out w.heap.size _ (j+1) _ ⟨w.heap.size,j,none⟩ (λ_ _=>.inl sI),bE];rw[Jt] at hin1;rw[hin1];rw[I1 oM,hti,Jh] at hj;simpa using hj
      ·rw[I1 oM,hti] at hj;obtain⟨q,hq⟩:∃q,j - i=q+1:=⟨j - i - 1,oM⟩;rw[hq] at hj
       replace hj:((xs.map stv).drop i)[q]?=some u:=by simpa using hj
       have hql:=(E2.1 hj).1;have:=hin2 q hql;rw[(oM:i+1+q=j)] at this;rw[this,hj]
    ·intro y hy;cases hy;exact hb
    ·rw[h2];have f1:=Fm.alloc (λy=>base<=y) w (.cells ((((xs.map stv).take i).toArray++Builtin.zeroCells (Value.string ⟨#[]⟩).cells (xs.length+1 - i)++Builtin.zeroCells (Value.string ⟨#[]⟩).cells (grownCap w (xs.length+1) cap 9 - (xs.length+1)))) 9);refine f1.trans (((Fm.drew (λy=>y=w.heap.size) _).trans ((Fm.setCells w.heap.size [stv x] i _).trans ((Fm.drew _ _).trans (Fm.setCells w.heap.size ((xs.map stv).drop i) (i+1) _) (λ_ _ e=>e) (λ_ _ e=>e)) (λ_ _ e=>e) (λ_ _ e=>e)) (λ_ _ e=>e) (λ_ _ e=>e)).mono (T:=λy=>base<=y) (λy _ e=>by rw[e];exact hb)) (λ_ _ e=>e) (λ_ _ e=>e)
   ·obtain rfl:i=xs.length:=oM;have c:=Any2.slices_Insert_string_end_grow (ρ:=Tryz.fF) Tryz.j9 (some ⟨g,0,none⟩) xs.length cap vb 0 1 1 (xs.map stv) [stv x] w oM hnc oM hs sI rfl (λe=>by cases e) (λa ha j u hj=>by cases ha;rw[aA];exact hold j u hj) hvs h1v;have hge:=grownCap_ge w (xs.length+1) cap 9;have hle:=grownCap_le_maxLen w (xs.length+1) cap 9 hml;refine eY (args:=[.slice (some ⟨g,0,none⟩) xs.length cap,iv xs.length,.slice (some ⟨vb,0,none⟩) 1 1]) c λe w' ⟨h1,h2⟩=>⟨_,h1,_,_,rfl,?_,?_,?_⟩
    ·rw[h2];refine hnew _ ?_ _ hge hle _ (ay _ _);have ht:(xs.map stv).take xs.length=xs.map stv:=G0 sI;rw[hins,ht,JA sI,H1,Array.toList_append,IU sI,G0 sI]
    ·intro y hy;cases hy;exact hb
    ·rw[h2];exact(Fm.drew _ w).trans (Fm.alloc _ w.drew _) (λ_ _ e=>e) (λ_ _ e=>e)
end YtmdmffeoehfjgaaGreatDoor
end Go.Proofs
namespace Go.Proofs.YtmdmffeoehfjgaaGreatDoor
open Go.Al Go.Proofs
def pcs(p:Pg)(v:Value):Array Value:=#[iv p.lsn,iv p.kind,iv p.level,iv p.right,stv p.high,v]
structure PgAs (w : World) (cs : Array Value) (p : Pg) : Prop where
 ex : ∃ v, cs = pcs p v ∧ v.oneCell' = true ∧ CellsAt w v p.items.length 1 (p.items.map stv)
 small : ∀ x ∈ p.items, x.length ≤ 140737488355328
 ins : In p.lsn ∧ In p.kind ∧ In p.level ∧ In p.right ∧ p.high.length ≤ 140737488355328 ∧ p.items.length * 16 ≤ 140737488355328
theorem PgAs.keep{w w':World}{cs:Array Value}{p:Pg}(h:PgAs w cs p)(hf:Fm (λ_=>False) w w'):PgAs w' cs p:=by obtain⟨v,h1,h2,h3⟩:=h.ex;exact⟨⟨v,h1,h2,h3.keep hf iT⟩,h.small,h.ins⟩
theorem PgAs.size{w:World}{cs:Array Value}{p:Pg}(h:PgAs w cs p):cs.size=6:=by obtain⟨v,rfl,_⟩:=h.ex;rfl
theorem PgAs.one{w:World}{cs:Array Value}{p:Pg}(h:PgAs w cs p):∀u∈cs.toList,u.oneCell'=true:=by obtain⟨v,rfl,h2,_⟩:=h.ex;intro u hu;simp[pcs] at hu;rcases hu with rfl|rfl|rfl|rfl|rfl|rfl<;>first|rfl|assumption
theorem xw(w:World):CellsAt w (.slice none 0 0) ([]:List Bs).length 1 (([]:List Bs).map stv):=⟨⟨none,0,rfl,D9 _,by simp[maxLen],λ_=>⟨rfl,rfl⟩,λj u hj=>by simp at hj⟩,rfl⟩
theorem Ha(w:World):PgAs w (pcs pg0 (.slice none 0 0)) pg0:=⟨⟨_,rfl,rfl,xw w⟩,by simp[pg0],by simp[pg0,In]⟩
def PB(w:World)(g:Nat)(p:Pg)(v:Value):Prop:=w.heap[g]?=some (.cells (pcs p v) 68)
section
variable{S:Nat->Prop}{w w':World}{g:Nat}{p:Pg}{v:Value}
theorem PB.keep(h:PB w g p v)(hf:Fm S w w')(hs:¬S g):PB w' g p v:=hf.heap h hs
theorem PB.c0(h:PB w g p v):w.cell? ⟨g,0,none⟩=some (iv p.lsn):=by rw[ab h];rfl
theorem PB.c1(h:PB w g p v):w.cell? ⟨g,1,none⟩=some (iv p.kind):=by rw[ab h];rfl
theorem PB.c2(h:PB w g p v):w.cell? ⟨g,2,none⟩=some (iv p.level):=by rw[ab h];rfl
theorem PB.c3(h:PB w g p v):w.cell? ⟨g,3,none⟩=some (iv p.right):=by rw[ab h];rfl
theorem PB.c4(h:PB w g p v):w.cell? ⟨g,4,none⟩=some (stv p.high):=by rw[ab h];rfl
theorem PB.c5(h:PB w g p v):w.cell? ⟨g,5,none⟩=some v:=by rw[ab h];rfl
theorem PB.all(h:PB w g p v):aI w ⟨g,0,none⟩ 6=some (.agg (pcs p v)):=aa h rfl
theorem PB.lt(h:PB w g p v):g<w.heap.size:=aj h
end
theorem zn(a b:Int):IntKind.i64.wrap (IntKind.i64.wrap a+b)=IntKind.i64.wrap (a+b):=by unfold IntKind.wrap;simp[IntKind.bits,IntKind.signed];omega
def AI(p:Pg)(i:Nat):Nat:=(p.items.take i).foldl (λn it=>n+(2+it.length)) (20+p.high.length)
theorem yg(p:Pg):AI p p.items.length=bp p:=by unfold AI bp;rw[IX]
theorem yh(p:Pg){i:Nat}{x:Bs}(h:p.items[i]?=some x):AI p (i+1)=AI p i+(2+x.length):=ku _ _ h
theorem uQ{w:World}{cs:Array Value}{p:Pg}(h:PgAs w cs p)(hn:p.items.length<=255):bp p<=40000000000000000:=by
 have key:∀(l:List Bs) (n:Nat),(∀x∈l,x.length<=140737488355328)->l.foldl (λn it=>n+(2+it.length)) n<=n+l.length*140737488355330:=by
  intro l;induction l with
  | nil=>intro n _;simp
  | cons x l ih=>intro n hx;have:=ih (n+(2+x.length)) (λy hy=>hx y (Jp _ hy));have:=hx x sI;simp only[Kv,G2];omega
 have:=key p.items (20+p.high.length) h.small;have:=h.ins;unfold bp;omega
theorem ll{w:World}{cs:Array Value}{p:Pg}(h:PgAs w cs p):Cl prog 250 [.agg cs] w λr w'=>r=iv (IntKind.i64.wrap (bp p))/\Fm (λ_=>False) w w':=by
 obtain⟨v,rfl,_,hc⟩:=h.ex;have hi:=h.ins;have hlt:=hc.lt;unfold maxLen at hlt;refine c250 ?_;refine ae ?_;intro g w1 hg hs1 hw1 hf1
 replace hw1:PB w1 g p v:=hw1
 have e0:IntKind.i64.wrap (20+(p.high.length:Int))=((20+p.high.length:Nat):Int):=by rw[af]<;>omega
 have hlen:=hc.lenV;simp only[RS,hw1.c4,aq,e0,hw1.c5,hlen];refine⟨λvs w2=>∃i:Nat,vs=[iv (IntKind.i64.wrap (AI p i:Nat)),iv i]/\i<=p.items.length/\w2=w1,λvs _=>(p.items.length - nth vs 1).toNat,⟨0,by rw[show AI p 0=20+p.high.length by simp[AI],af oM];rfl,oM,rfl⟩,?_⟩;rintro _ w2 nv ivv ⟨i,hvs,hi2,rfl⟩;cases hvs;by_cases hl:i<p.items.length
 ·have e1:decide ((i:Int)<(p.items.length:Int))=true:=by rw[C4];omega
  have e2:IntKind.i64.wrap ((i:Int)+1)=((i+1:Nat):Int):=by rw[af]<;>omega
  have hx:p.items[i]?=some p.items[i]:=C6 hl;have hxm:p.items[i]∈p.items:=Jk hl;generalize p.items[i]=x at hx hxm;have hxl:=h.small x hxm;obtain⟨ad,hix,_,hcx⟩:=(hc.keep hf1 iT).iS (i:=i) (x:=stv x) (by rw[E4,hx];rfl) .i64;have e3:IntKind.i64.wrap (2+(x.length:Int))=((2+x.length:Nat):Int):=by rw[af]<;>omega
  have e4:IntKind.i64.wrap (IntKind.i64.wrap (AI p i:Nat)+((2+x.length:Nat):Int))=IntKind.i64.wrap (AI p (i+1):Nat):=by rw[zn,yh p hx];congr 1
  simp only[RS,e1,hix,hcx,aq,e3,e4,e2];exact⟨⟨i+1,rfl,oM,tV⟩,by simp only[cK];omega⟩
 ·obtain rfl:i=p.items.length:=oM;have e1:decide (((p.items.length:Nat):Int)<(p.items.length:Int))=false:=sI;simp only[RS,e1];exact⟨by rw[yg],hf1⟩
def eU(p:Pg):Bool:=decide (p.items.length<=255)&&decide (bp p<=512)
theorem oT{w:World}{cs:Array Value}{p:Pg}(h:PgAs w cs p):Cl prog 158 [.agg cs] w λr w'=>r=.bool (eU p)/\Fm (λ_=>False) w w':=by
 obtain⟨v,hcs,_,hc⟩:=h.ex;refine c158 ?_;refine ae ?_;intro g w1 hg hs1 hw1 hf1;have hb:PB w1 g p v:=by rw[PB,<- hcs];exact hw1
 have hall:=hb.all;rw[<- hcs] at hall;have hlen:=hc.lenV;have d1:decide ((p.items.length:Int)<=255)=decide (p.items.length<=255):=by rw[G9];omega
 unfold eU;simp only[RS,hb.c5,hlen,d1];cases hd:decide (p.items.length<=255) with
 | false=>simp only[RS,Jq];exact⟨tV,hf1⟩
 | true=>
  have hsb:=uQ h (by simpa using hd);simp only[RS,hall];refine(ll (h.keep hf1)).mono ?_;rintro _ w2 ⟨rfl,hf2⟩;have d2:decide (IntKind.i64.wrap (bp p)<=512)=decide (bp p<=512):=by rw[dI oM,G9];omega
  simp only[RS,d2,JD];exact⟨tV,Fmf hf1 hf2⟩
def eN(p:Pg):Bool:=decide (p.lsn<0\/p.level<0\/p.right<0\/p.kind<1\/3<p.kind\/255<p.level\/4294967295<p.right)
def oZ(p:Pg):Bool:=decide (255<p.high.length\/255<p.items.length\/512<bp p)
theorem ra(p:Pg):pErr p=bif eN p then 4 else bif oZ p then 3 else 0:=rfl
def tW(p:Pg):Value:=.tuple #[stv (pEnc p).1,iv (pEnc p).2]
theorem tX{p:Pg}(h:eN p=true):tW p=.tuple #[stv [],iv 4]:=by
 have:pErr p=4:=by rw[ra,h];rfl
 unfold tW;rw[jF (by rw[this];decide),this]
theorem xc{p:Pg}(h:eN p=false)(h2:oZ p=true):tW p=.tuple #[stv [],iv 3]:=by
 have:pErr p=3:=by rw[ra,h,h2];rfl
 unfold tW;rw[jF (by rw[this];decide),this]
theorem xY{p:Pg}(h:eN p=false)(h2:oZ p=false):pErr p=0:=by rw[ra,h,h2];rfl
theorem Cu{p:Pg}(h:pErr p=0):tW p=.tuple #[stv (beN 4 (crc (da p))++da p),iv 0]:=by unfold tW;rw[kQ h]
theorem xl(a b c:Int):aB aR [iv a,iv b,iv c]=some (iv (if c<(if b<a then b else a) then c else(if b<a then b else a))):=rfl
theorem mZ{n:Int}{k:Nat}(h0:0<=n)(h1:1<=k)(h8:k<=8):eV n (k:Int)=beN k n.toNat:=by have:=ej (n:=n.toNat) h1 h8;rw[Int.toNat_of_nonneg h0] at this;exact this
theorem mG{a b:Bs}(h:a.length+b.length<=9223372036854775807):aC TypeDesc.string .add (stv a) (stv b)=some (stv (a++b)):=vX _ a b h
theorem flat_take{l:List Bs}{i:Nat}{x:Bs}(h:l[i]?=some x):(l.take (i+1)).flatMap itB=(l.take i).flatMap itB++itB x:=by rw[H8,h,Jr];simp
theorem Cz(l:List Bs)(i:Nat):((l.take i).flatMap itB).length<=(l.flatMap itB).length:=by
 have:l.flatMap itB=(l.take i).flatMap itB++(l.drop i).flatMap itB:=by rw[<- Jr,JM]
 rw[this,C5];omega
theorem so(l:Bs):In (crc l:Nat)/\IntKind.i64.wrap (crc l:Nat)=((crc l:Nat):Int):=by have:=Br l;exact⟨by unfold In;omega,dI oM⟩
theorem cH{w:World}{cs:Array Value}{p:Pg}(h:PgAs w cs p):Cl prog 66 [.agg cs] w λr w'=>r=tW p/\Fm (λ_=>False) w w':=by
 obtain⟨v,rfl,hone,hc⟩:=h.ex;have hin:=h.ins;have hclt:=hc.lt;unfold maxLen at hclt;refine c66 ?_;refine ae ?_;intro x1 w1 hx1 hs1 hw1 hf1
 replace hw1:PB w1 x1 p v:=hw1
 have hc1:=hc.keep hf1 iT;have hlen:=hc.lenV;refine aJ (λvs w2=>vs=[.bool (eN p)]/\w2=w1) ?_ ?_
 ·rintro _ w2 ⟨rfl,rfl⟩ _;refine⟨_,rfl,?_⟩;cases hr:eN p with
  | true=>simp only[RS];exact⟨(tX hr).symm,hf1⟩
  | false=>
  simp only[RS];refine aJ (λvs w3=>vs=[.bool (oZ p)]/\PB w3 x1 p v/\Fm (λ_=>False) w2 w3) ?_ ?_
  ·rintro _ w3 ⟨rfl,hw3,hf3⟩ _;refine⟨_,rfl,?_⟩;have hF3:=Fmf hf1 hf3;cases hl:oZ p with
   | true=>simp only[RS];exact⟨(xc hr hl).symm,hF3⟩
   | false=>
   simp only[RS];have hok:=xY hr hl;obtain⟨⟨b1,b2,b3,b4,b5,b6,b7⟩,b8,b9,b10⟩:=rf hok;have hbl:=kO p;refine ae ?_;intro b w4 hb hs4 hw4 hf4;have hB4:=Bld.new hw4;have hf5:=Fm.drew (λ_=>False) w4;have hB5:=hB4.keep hf5;have hP4:=hw3.keep hf4 id;have hP5:PB w4.drew x1 p v:=hP4.keep hf5 id;have hF5:Fm (λ_=>False) w w4.drew:=Fmf hF3 (Fmf hf4 hf5);have hxb:x1<b/\w.heap.size<=b:=by have:=hw3.lt;have:=hF3.size;omega
   generalize w4.drew=w5 at hB5 hP5 hF5;have upB:∀{a c:World},Fm (λ_=>False) a c->Fm (λy=>b<=y) a c:=λhf=>hf.mono iE;refine⟨λw=>PB w x1 p v,hP5,?_⟩;simp only[RS,hP4.c0,JF];refine⟨iv p.kind,λw6 h6=>?_,?_⟩
   ·simp only[RS,h6.c1];trivial
   refine⟨iv p.level,λw6 h6=>?_,?_⟩
   ·simp only[RS,h6.c2];trivial
   refine⟨iv p.right,λw6 h6=>?_,?_⟩
   ·simp only[RS,h6.c3];trivial
   refine(bt w5 hin.1 8).mono ?_;rintro _ w6 ⟨rfl,hf6⟩;have hP6:=hP5.keep hf6 id;refine⟨hP6,?_⟩;refine(bt w6 hin.2.1 1).mono ?_;rintro _ w7 ⟨rfl,hf7⟩;have hP7:=hP6.keep hf7 id;refine⟨hP7,?_⟩;have g1:eV p.lsn 8=beN 8 p.lsn.toNat:=mZ (k:=8) b1 oM oM;have g2:eV p.kind 1=beN 1 p.kind.toNat:=mZ (k:=1) oM oM oM;have g3:eV p.level 1=beN 1 p.level.toNat:=mZ (k:=1) b2 oM oM;have g4:eV p.right 4=beN 4 p.right.toNat:=mZ (k:=4) b3 oM oM;rw[g1,g2,mG (by rw[aH,aH];omega)]
   try simp only[RS]
   refine(bt w7 hin.2.2.1 1).mono ?_;rintro _ w8 ⟨rfl,hf8⟩;have hP8:=hP7.keep hf8 id;refine⟨hP8,?_⟩;rw[g3,mG (by simp only[C5,aH];omega)]
   try simp only[RS]
   refine(bt w8 hin.2.2.2.1 4).mono ?_;rintro _ w9 ⟨rfl,hf9⟩;have hP9:=hP8.keep hf9 id;rw[g4,mG (by simp only[C5,aH];omega)]
   try simp only[RS]
   have hF59:=Fmf (Fmf hf6 hf7) (Fmf hf8 hf9);have hB9:=hB5.keep hF59;refine(bR hB9 _ (by simp only[C5,aH,Ja];omega)).mono ?_;rintro _ w10 ⟨hB10,hf10⟩;have hP10:=hP9.keep hf10 oM;have hf11:=Fm.drew (λ_=>False) w10;have hB11:=hB10.keep hf11;have hP11:=hP10.keep hf11 id;have hF11:Fm (λ_=>False) w w10.drew:=Fmf (Fm.own (Fmf hF5 hF59) hf10 (λy hy=>oM)) hf11;generalize w10.drew=w11 at hB11 hP11 hF11;refine⟨λw=>PB w x1 p v,hP11,?_⟩;simp only[RS,hP10.c5,hlen];refine⟨stv p.high,λw6 h6=>?_,?_⟩
   ·simp only[RS,h6.c4];trivial
   simp only[RS,aq];refine⟨stv p.high,λw6 h6=>?_,?_⟩
   ·simp only[RS,h6.c4];trivial
   refine(bt w11 (n:=(p.items.length:Nat)) (by unfold In;omega) 1).mono ?_;rintro _ w12 ⟨rfl,hf12⟩;have hP12:=hP11.keep hf12 id;refine⟨hP12,?_⟩;refine(bt w12 (n:=(p.high.length:Nat)) (by unfold In;omega) 1).mono ?_;rintro _ w13 ⟨rfl,hf13⟩;have hP13:=hP12.keep hf13 id;refine⟨hP13,?_⟩;have g5:eV (p.items.length:Nat) 1=beN 1 p.items.length:=ej (n:=p.items.length) (w:=1) oM oM;have g6:eV (p.high.length:Nat) 1=beN 1 p.high.length:=ej (n:=p.high.length) (w:=1) oM oM;rw[g5,g6,mG (by simp only[aH];omega)]
   try simp only[RS]
   rw[mG (by simp only[C5,aH];omega)]
   try simp only[RS]
   have hB13:=hB11.keep (Fmf hf12 hf13);refine(bR hB13 _ (by simp only[C5,aH,Ja];omega)).mono ?_;rintro _ w14 ⟨hB14,hf14⟩;have hP14:=hP13.keep hf14 oM;have hF14:Fm (λ_=>False) w w14:=Fm.own (Fmf hF11 (Fmf hf12 hf13)) hf14 (λy hy=>oM);have hhead:[]++(beN 8 p.lsn.toNat++beN 1 p.kind.toNat++beN 1 p.level.toNat++beN 4 p.right.toNat)++(beN 1 p.items.length++beN 1 p.high.length++p.high)=lJ p:=by simp only[lJ,H9,G7]
   rw[hhead] at hB14;simp only[RS,hP14.c5,hlen];refine⟨λvs w15=>∃i:Nat,vs=[iv i]/\i<=p.items.length/\Bld w15 b (lJ p++(p.items.take i).flatMap itB)/\PB w15 x1 p v/\Fm (λ_=>False) w w15,λvs _=>(p.items.length - nth vs 0).toNat,⟨0,rfl,oM,by simpa using hB14,hP14,hF14⟩,?_⟩;rintro _ w15 ivv ⟨i,hvs,hi,hB15,hP15,hF15⟩;cases hvs;have hpl:(cZ p).length=(lJ p).length+(p.items.flatMap itB).length:=by rw[cZ,C5]
   by_cases hlt:i<p.items.length
   ·have e1:decide ((i:Int)<(p.items.length:Int))=true:=by rw[C4];omega
    have e2:IntKind.i64.wrap ((i:Int)+1)=((i+1:Nat):Int):=by rw[af]<;>omega
    have hx:p.items[i]?=some p.items[i]:=C6 hlt;have hxm:p.items[i]∈p.items:=Jk hlt;generalize p.items[i]=x at hx hxm;have hxs:=mg b10 x hxm;have hfl:=Cz p.items (i+1);rw[flat_take hx,C5,qR] at hfl;obtain⟨ad,hix,_,hcx⟩:=(hc.keep hF15 iT).iS (i:=i) (x:=stv x) (by rw[E4,hx];rfl) .i64;simp only[RS,e1,hix,hcx,aq];refine(bt w15 (n:=(x.length:Nat)) (by unfold In;omega) 2).mono ?_;rintro _ w16 ⟨rfl,hf16⟩;have g7:eV (x.length:Nat) 2=beN 2 x.length:=ej (n:=x.length) (w:=2) oM oM;rw[g7,mG (by simp only[aH];omega)]
    try simp only[RS]
    refine(bR (hB15.keep hf16) _ (by simp only[C5,aH];omega)).mono ?_;rintro _ w17 ⟨hB17,hf17⟩;simp only[RS,e2];refine⟨⟨i+1,rfl,oM,?_,(hP15.keep hf16 id).keep hf17 oM,Fm.own (Fmf hF15 hf16) hf17 (λy hy=>oM)⟩,by simp only[ba];omega⟩;rw[flat_take hx,<- G7];exact hB17
   ·obtain rfl:i=p.items.length:=oM;have e1:decide (((p.items.length:Nat):Int)<(p.items.length:Int))=false:=sI;rw[IX,show lJ p++p.items.flatMap itB=cZ p from rfl] at hB15;simp only[RS,e1];refine(wA hB15).mono ?_;rintro _ w15 ⟨rfl,rfl⟩;have e3:IntKind.i64.wrap (508 - ((cZ p).length:Int))=((508 - (cZ p).length:Nat):Int):=by rw[af]<;>omega
    simp only[RS,e3];refine(bT w15 (508 - (cZ p).length) oM).mono ?_;rintro _ w16 ⟨rfl,hf16⟩;refine(bR (hB15.keep hf16) _ (by rw[cm];omega)).mono ?_;rintro _ w17 ⟨hB17,hf17⟩;rw[show cZ p++aG (508 - (cZ p).length)=da p from rfl] at hB17;have hF17:=Fm.own (Fmf hF15 hf16) hf17 (λy hy=>oM);refine(eX hB17).mono ?_;rintro _ w18 ⟨rfl,hB18,hf18⟩;have htl:=pF b10;refine(jL w18 (da p) oM).mono ?_;rintro _ w18 ⟨rfl,rfl⟩;obtain⟨q1,q2⟩:=so (da p);simp only[RS,bN,q2];refine(bt w18 q1 4).mono ?_;rintro _ w19 ⟨rfl,hf19⟩;refine(eX (hB18.keep hf19)).mono ?_;rintro _ w20 ⟨rfl,hB20,hf20⟩;have g8:eV (crc (da p):Nat) 4=beN 4 (crc (da p)):=ej (n:=crc (da p)) (w:=4) oM oM;rw[g8,mG (by rw[aH];omega)]
    try simp only[RS]
    refine⟨(Cu hok).symm,Fm.own (Fmf (Fm.own hF17 hf18 (λy hy=>oM)) hf19) hf20 (λy hy=>oM)⟩
  ·intro jj hjj;have d1:decide ((255:Int)<(p.high.length:Int))=decide (255<p.high.length):=by rw[G9];omega
   have hall:=hw1.all;simp only[RS,hw1.c4,aq,d1];cases hd:decide (255<p.high.length) with
   | true=>
    simp only[RS];refine hjj _ _ ⟨?_,hw1,Fm.refl _ _⟩;have:oZ p=true:=by unfold oZ;rw[C4] at hd ⊢;exact .inl hd
    rw[this]
   | false=>
    simp only[RS,hall];refine(oT (p:=p) ⟨⟨v,rfl,hone,hc1⟩,h.small,h.ins⟩).mono ?_;rintro _ w3 ⟨rfl,hf3⟩;simp only[RS];refine hjj _ _ ⟨?_,hw1.keep hf3 id,hf3⟩;congr 2;unfold eU oZ;rw[C7] at hd;by_cases h1:p.items.length<=255
    ·by_cases h2:bp p<=512
     ·simp[h1,h2];omega
     ·simp[h1,h2];omega
    ·simp[h1];omega
 ·intro jj hjj;have fin:∀b:Bool,eN p=b->jj [.bool b] w1:=λb hb=>hjj _ _ ⟨by rw[hb],rfl⟩;have hmin:decide ((if p.right<(if p.level<p.lsn then p.level else p.lsn) then p.right else(if p.level<p.lsn then p.level else p.lsn))<0)=decide (p.lsn<0\/p.level<0\/p.right<0):=by rw[G9];split<;>split<;>omega
  simp only[RS,hw1.c0,hw1.c2,hw1.c3,xl,hmin];cases h1:decide (p.lsn<0\/p.level<0\/p.right<0) with
  | true=>simp only[RS];exact fin _ (by unfold eN;simp only[C4] at *;omega)
  | false=>
  simp only[RS,hw1.c1];cases h2:decide (p.kind<1) with
  | true=>simp only[RS];exact fin _ (by unfold eN;simp only[C4] at *;omega)
  | false=>
  simp only[RS];cases h3:decide (3<p.kind) with
  | true=>simp only[RS];exact fin _ (by unfold eN;simp only[C4] at *;omega)
  | false=>
  simp only[RS];cases h4:decide (255<p.level) with
  | true=>simp only[RS];exact fin _ (by unfold eN;simp only[C4] at *;omega)
  | false=>
  simp only[RS];refine fin _ ?_;unfold eN;rw[G9];simp only[C7] at *;omega
structure PgOw (w : World) (base : Nat) (cs : Array Value) (p : Pg) : Prop where
 ex : ∃ v, cs = pcs p v ∧ w.ownsRow base 9 1 v p.items.length (p.items.map stv)
 small : ∀ x ∈ p.items, x.length ≤ 140737488355328
 ins : In p.lsn ∧ In p.kind ∧ In p.level ∧ In p.right ∧ p.high.length ≤ 140737488355328 ∧ p.items.length * 16 ≤ 140737488355328
theorem PgOw.as{w:World}{base:Nat}{cs:Array Value}{p:Pg}(h:PgOw w base cs p):PgAs w cs p:=by obtain⟨v,h1,h2⟩:=h.ex;exact⟨⟨v,h1,az h2,CellsAt.aT h2⟩,h.small,h.ins⟩
theorem PgOw.keep{w w':World}{base:Nat}{cs:Array Value}{p:Pg}(h:PgOw w base cs p)(hf:Fm (λ_=>False) w w'):PgOw w' base cs p:=by obtain⟨v,h1,h2⟩:=h.ex;exact⟨⟨v,h1,ah h2 hf (λ_ _ _ _ e=>e)⟩,h.small,h.ins⟩
theorem PgOw.zero(w:World)(base:Nat):PgOw w base (pcs pg0 (.slice none 0 0)) pg0:=⟨⟨_,rfl,World.ownsRow_nil _ _ _ _⟩,by simp[pg0],by simp[pg0,In]⟩
theorem gP(w:World):(Instr.build 68 #[]).run prog w=.ok (.agg (pcs pg0 (.slice none 0 0))) w:=kR
theorem wu(a b c d:Int)(w:World):(Instr.build 68 #[(0,iv a),(1,iv b),(2,iv c),(3,iv d)]).run prog w=.ok (.agg (pcs ⟨a,b,c,d,[],[]⟩ (.slice none 0 0))) w:=kR
theorem dF{d:Bs}{k:Nat}(h:k<d.length):ixS (stv d) (.int .i64 k)=some (.int .u8 ((d.getD k 0).toNat:Nat)):=by
 have:d[k]?=some (d.getD k 0):=by rw[G6,C6 h];rfl
 exact iU this .i64
theorem tw(b:UInt8):IntKind.i64.wrap (b.toNat:Nat)=((b.toNat:Nat):Int):=by have:=b.toNat_lt;exact dI oM
def SB(w:World)(g:Nat)(s:Bs):Prop:=w.heap[g]?=some (.cells #[stv s] 9)
theorem SB.keep{S:Nat->Prop}{w w':World}{g:Nat}{s:Bs}(h:SB w g s)(hf:Fm S w w')(hs:¬S g):SB w' g s:=hf.heap h hs
theorem SB.c{w:World}{g:Nat}{s:Bs}(h:SB w g s):w.cell? ⟨g,0,none⟩=some (stv s):=by rw[ab h];rfl
theorem jA{w:World}{g:Nat}{s:Bs}(h:SB w g s)(n:Nat):Cl prog 344 [pv g,iv n] w λr w'=>r=.tuple #[stv (bif decide (n<=s.length) then s.take n else[]),.bool (decide (n<=s.length))]/\SB w' g (bif decide (n<=s.length) then s.drop n else s)/\Fm (·=g) w w':=by
 refine c344 ?_;have d1:decide ((s.length:Int)<(n:Int))=!decide (n<=s.length):=by
  by_cases hn:n<=s.length
  ·simp[hn]
  ·simp[hn];omega
 simp only[RS,h.c,aq,d1];cases hd:decide (n<=s.length) with
 | false=>simp only[RS];exact⟨tV,h,Fm.refl _ _⟩
 | true=>rw[C4] at hd;simp only[RS,gl hd .i64,eP hd .i64];refine au h (by show 0<1;decide) rfl ?_;intro w2 hw2 hs2 hf2;exact⟨rfl,hw2,hf2⟩
theorem AC{d:Bs}(h:d.length≠512):dJ d=(pg0,31):=by unfold dJ;rw[show decide (d.length≠512)=true by simpa using h];rfl
theorem AD{d:Bs}(h:d.length=512)(h2:beN 4 (crc (d.drop 4))≠d.take 4):dJ d=(pg0,30):=by unfold dJ;rw[show decide (d.length≠512)=false by simpa using h,show decide (beN 4 (crc (d.drop 4))≠d.take 4)=true by rw[C4];exact h2];rfl
theorem pC{d:Bs}(h:d.length=512)(h2:beN 4 (crc (d.drop 4))=d.take 4)(h3:bV (cq d) (gw d)=none):dJ d=(pg0,31):=by unfold dJ;rw[show decide (d.length≠512)=false by simpa using h,show decide (beN 4 (crc (d.drop 4))≠d.take 4)=false by rw[C7];exact λe=>e h2,h3];rfl
def Eo(d t:Bs):Bool:=decide (t≠aG t.length)||decide (127<(d.getD 4 0).toNat)||decide (cF d<1)||decide (3<cF d)
def gA(d:Bs)(l:List Bs):Pg:=⟨(Bt d % 2 ^ 63:Nat),cF d,eZ d,gR d,jZ d,l⟩
theorem xX{d:Bs}(h:d.length=512)(h2:beN 4 (crc (d.drop 4))=d.take 4){l:List Bs}{t:Bs}(h3:bV (cq d) (gw d)=some (l,t)):dJ d=bif Eo d t then(pg0,31) else(gA d l,0):=by
 unfold dJ;rw[show decide (d.length≠512)=false by simpa using h,show decide (beN 4 (crc (d.drop 4))≠d.take 4)=false by rw[C7];exact λe=>e h2,h3];have:Eo d t=decide (t≠aG t.length\/127<(d.getD 4 0).toNat\/cF d<1\/3<cF d):=by unfold Eo;simp only[Bool.decide_or,Bool.or_assoc]
 rw[this];rfl
theorem Aj{d:Bs}(h:d.length=512){l:List Bs}(hl:l.length<=255):In (gA d l).lsn/\In (gA d l).kind/\In (gA d l).level/\In (gA d l).right/\(gA d l).high.length<=140737488355328/\(gA d l).items.length*16<=140737488355328:=by
 have h1:cF d<256:=UInt8.toNat_lt _;have h2:eZ d<256:=UInt8.toNat_lt _;have h3:gR d<256 ^ 4:=py 4 _ (by rw[E5,G4];omega);have h4:(jZ d).length<=512:=by unfold jZ;rw[E5,G4];omega
 unfold gA In;simp only;omega
theorem kU(n:Nat)(s:Bs):bV (n+1) s=bif decide (2<=s.length)&&decide (ofB (s.take 2)<=(s.drop 2).length) then(bV n ((s.drop 2).drop (ofB (s.take 2)))).map (λx=>((s.drop 2).take (ofB (s.take 2))::x.1,x.2)) else none:=by
 rw[bV];by_cases h1:s.length<2
 ·simp[h1,(oM:¬2<=s.length)]
 ·by_cases h2:(s.drop 2).length<ofB (s.take 2)
  ·have e2:decide (ofB (s.take 2)<=(s.drop 2).length)=false:=by rw[C7];omega
   have e3:decide (s.length<2)=false:=by rw[C7];exact h1
   have e4:decide ((s.drop 2).length<ofB (s.take 2))=true:=by rw[C4];exact h2
   rw[e2,e3,e4,J7];rfl
  ·have e1:decide (2<=s.length)=true:=by rw[C4];omega
   have e2:decide (ofB (s.take 2)<=(s.drop 2).length)=true:=by rw[C4];omega
   have e3:decide (s.length<2)=false:=by rw[C7];exact h1
   have e4:decide ((s.drop 2).length<ofB (s.take 2))=false:=by rw[C7];exact h2
   rw[e1,e2,e3,e4];rfl
def Mid(d:Bs)(i:Nat)(l:List Bs)(s:Bs):Prop:=l.length=i/\(∀x∈l,x.length<=512)/\s.length<=492/\bV (cq d) (gw d)=(bV (cq d - i) s).map (λx=>(l++x.1,x.2))
theorem Mid.zero{d:Bs}(h:d.length=512):Mid d 0 [] (gw d):=by
 refine⟨rfl,sI,?_,?_⟩
 ·unfold gw;simp only[G4];omega
 ·rw[Kl];cases bV (cq d) (gw d)<;>simp
theorem Mid.next{d:Bs}{i:Nat}{l:List Bs}{s:Bs}(h:Mid d i l s)(hi:i<cq d)(h1:2<=s.length)(h2:ofB (s.take 2)<=(s.drop 2).length):Mid d (i+1) (l++[(s.drop 2).take (ofB (s.take 2))]) ((s.drop 2).drop (ofB (s.take 2))):=by
 obtain⟨a,b,c,e⟩:=h;refine⟨by simp[a],?_,?_,?_⟩
 ·intro x hx;rcases H5.1 hx with hx|hx
  ·exact b x hx
  ·obtain rfl:x=_:=by simpa using hx
   simp only[E5,G4];omega
 ·simp only[G4];omega
 ·rw[e,(oM:cq d - i=(cq d - (i+1))+1),kU,show decide (2<=s.length)=true by simpa using h1,show decide (ofB (s.take 2)<=(s.drop 2).length)=true by simpa using h2];simp only[KE,D8,Option.map_map];congr 1;funext x;simp
theorem Mid.stop{d:Bs}{i:Nat}{l:List Bs}{s:Bs}(h:Mid d i l s)(hi:i<cq d)(h1:¬(2<=s.length/\ofB (s.take 2)<=(s.drop 2).length)):bV (cq d) (gw d)=none:=by
 rw[h.2.2.2,(oM:cq d - i=(cq d - (i+1))+1),kU];have:(decide (2<=s.length)&&decide (ofB (s.take 2)<=(s.drop 2).length))=false:=by rw[<- Bool.not_eq_true,E0,C4,C4];exact h1
 rw[this];rfl
theorem Mid.last{d:Bs}{l:List Bs}{s:Bs}(h:Mid d (cq d) l s):bV (cq d) (gw d)=some (l,s):=by rw[h.2.2.2,Jh,bV];simp
theorem HW(x:Bs)(w:World):(Instr.buildSlice 66 1 #[(0,stv x)]).run prog w=.ok (.slice (some ⟨w.heap.size,0,none⟩) 1 1) (w.alloc (.cells #[stv x] 9)):=kR
theorem ke(w:World)(d:Bs)(hd:d.length<=9223372036854775806):Cl prog 282 [stv d] w λr w'=>∃cs,r=.tuple #[.agg cs,iv (dJ d).2]/\PgOw w' w.heap.size cs (dJ d).1/\Fm (λ_=>False) w w':=by
 refine c282 ?_;refine ae ?_;intro x2 w1 hx2 hs1 hw1 hf1;have ret:∀(w':World) (cs0:Array Value) (e:Int),w'.heap[x2]?=some (.cells cs0 68)->cs0.size=6->Fm (λ_=>False) w w'->dJ d=(pg0,e) ->
   ((∀w'':World,w''.heap[x2]?=some (.cells (pcs pg0 (.slice none 0 0)) 68)->Fm (λ_=>False) w w''->Pu (aI w'' ⟨x2,0,none⟩ 6) (λuu=>(λ(r:Value) w'=>∃cs,r=.tuple #[.agg cs,iv (dJ d).2]/\PgOw w' w.heap.size cs (dJ d).1/\Fm (λ_=>False) w w') (Value.tuple #[uu,iv e]:Value) w''))):=by
  intro w' cs0 e h1 h2 h3 h6 w'' h7 h8;refine yy h7 rfl ?_;rw[h6];exact⟨_,rfl,PgOw.zero _ _,h8⟩
 have d0:decide ((d.length:Int)=512)=decide (d.length=512):=by rw[G9];omega
 simp only[RS,aq,aF,d0];cases h0:decide (d.length=512) with
 | false=>
  have hne:d.length≠512:=by simpa using h0
  simp only[RS];refine ag (gP _) ?_;refine ao hw1 rfl rfl (by intro u hu;simp[pcs] at hu;rcases hu with rfl|rfl|rfl|rfl|rfl|rfl<;>rfl) ?_;intro w2 hw2 hs2 hf2;exact ret w1 _ 31 hw1 rfl hf1 (AC hne) w2 hw2 (Fm.own hf1 hf2 (by rintro y rfl;omega))
 | true=>
 have h512:d.length=512:=by simpa using h0
 have s1:slS (stv d) (some (Value.int .i64 4)) none=some (stv (d.drop 4)):=eP (i:=4) oM .i64;have s2:slS (stv d) none (some (Value.int .i64 4))=some (stv (d.take 4)):=gl (i:=4) oM .i64;have hf2:=Fm.drew (λ_=>False) w1;have hx2':w1.drew.heap[x2]?=some (.cells #[iv 0,iv 0,iv 0,iv 0,stv [],.slice none 0 0] 68):=hw1;have hF2:=Fmf hf1 hf2;simp only[RS,s1,s2];generalize w1.drew=w2 at hf2 hx2' hF2;refine(jL w2 (d.drop 4) (by rw[G4];omega)).mono ?_;rintro _ w2 ⟨rfl,rfl⟩;obtain⟨q1,q2⟩:=so (d.drop 4);simp only[RS,bN,q2];refine(bt w2 q1 4).mono ?_;rintro _ w3 ⟨rfl,hf3⟩;have g8:eV (crc (d.drop 4):Nat) 4=beN 4 (crc (d.drop 4)):=ej (n:=crc (d.drop 4)) (w:=4) oM oM;have hx3:=hf3.heap hx2' id;have hF3:=Fmf hF2 hf3;rw[g8];simp only[RS,br];cases hsum:decide (beN 4 (crc (d.drop 4))=d.take 4) with
 | false=>
  have hne:beN 4 (crc (d.drop 4))≠d.take 4:=by simpa using hsum
  simp only[RS];refine ag (gP _) ?_;refine ao hx3 rfl rfl (by intro u hu;simp[pcs] at hu;rcases hu with rfl|rfl|rfl|rfl|rfl|rfl<;>rfl) ?_;intro w4 hw4 hs4 hf4;exact ret w3 _ 30 hx3 rfl hF3 (AD h512 hne) w4 hw4 (Fm.own hF3 hf4 (by rintro y rfl;omega))
 | true=>
 have hse:beN 4 (crc (d.drop 4))=d.take 4:=by simpa using hsum
 simp only[RS];have hx2s:x2=w.heap.size:=hx2;refine aJ (λvs w4=>∃g4,vs=[pv g4]/\PB w4 g4 ⟨(Bt d % 2 ^ 63:Nat),cF d,eZ d,gR d,[],[]⟩ (.slice none 0 0)/\g4≠x2/\w.heap.size<=g4/\w4.heap[x2]?=some (.cells #[iv 0,iv 0,iv 0,iv 0,stv [],.slice none 0 0] 68)/\Fm (λ_=>False) w w4) ?_ ?_
 ·rintro _ w4 ⟨g4,rfl,hP4,hne4,hge4,hx4,hF4⟩ _;refine⟨_,rfl,?_⟩;have s3:slS (stv d) (some (Value.int .i64 20)) none=some (stv (d.drop 20)):=eP (i:=20) oM .i64;have i19:ixS (stv d) (Value.int .i64 19)=some (.int .u8 ((dHl d:Nat))):=dF (k:=19) oM;have i18:ixS (stv d) (Value.int .i64 18)=some (.int .u8 ((cq d:Nat))):=dF (k:=18) oM;have c19:IntKind.i64.wrap (dHl d:Nat)=((dHl d:Nat):Int):=tw _;have c18:IntKind.i64.wrap (cq d:Nat)=((cq d:Nat):Int):=tw _;have hhl:dHl d<256:=UInt8.toNat_lt _;have hmy:cq d<256:=UInt8.toNat_lt _;have hg4l:=hP4.lt;simp only[RS,s3];refine ae ?_;intro x5 w5 hx5 hs5 hw5 hf5;refine au hw5 (by show 0<1;decide) rfl ?_;intro w6 hw6 hs6 hf6
  replace hw6:SB w6 x5 (d.drop 20):=hw6
  have hf46:Fm (λ_=>False) w4 w6:=Fm.own hf5 hf6 (by rintro y rfl;omega);have hP6:=hP4.keep hf46 id;have hx6:=hf46.heap hx4 id;have hF6:=Fmf hF4 hf46;have hz4:=hF4.size;have hx2l:=aj hx4;simp only[RS,i19,bN,c19];refine(jA hw6 (dHl d)).mono ?_;rintro _ w7 ⟨rfl,hS7,hf7⟩;have hle:decide (dHl d<=(d.drop 20).length)=true:=by rw[C4,G4];omega
  rw[hle,D8] at hS7;rw[hle,D8];have hP7:=hP6.keep hf7 oM;have hx7:=hf7.heap hx6 oM;have hF7:Fm (λ_=>False) w w7:=Fm.own hF6 hf7 (by rintro y rfl;omega);simp only[RS];refine au hP7 (by show 4<6;decide) rfl ?_;intro w8 hw8 hs8 hf8
  replace hw8:PB w8 g4 (gA d []) (.slice none 0 0):=hw8
  have hS8:SB w8 x5 (gw d):=hS7.keep hf8 oM;have hx8:=hf8.heap hx7 (λe=>hne4 e.symm);have hF8:Fm (λ_=>False) w w8:=Fm.own hF7 hf8 (by rintro y rfl;omega);have hl6:=hw6.keep hf7;have hz6:x5<w8.heap.size:=aj hS8;simp only[RS,i18,bN,c18];refine⟨λvs w9=>∃(i:Nat) (l:List Bs) (s:Bs) (v:Value),vs=[iv i]/\i<=cq d/\Mid d i l s/\PB w9 g4 (gA d l) v/\w9.ownsRow (x5+1) 9 1 v l.length (l.map stv)/\SB w9 x5 s/\w9.heap[x2]?=some (.cells #[iv 0,iv 0,iv 0,iv 0,stv [],.slice none 0 0] 68)/\Fm (λ_=>False) w w9,λvs _=>(cq d - nth vs 0).toNat,
   ⟨0,[],gw d,_,rfl,oM,Mid.zero h512,hw8,World.ownsRow_nil _ _ _ _,hS8,hx8,hF8⟩,?_⟩
  rintro _ w9 ivv ⟨i,l,s,v,hvs,hi,hM,hP9,hO9,hS9,hx9,hF9⟩;cases hvs;have hll:=hM.1;have hz9:x5<w9.heap.size:=aj hS9;have hg9:=hP9.lt;have hx29:=aj hx9;by_cases hlt:i<cq d
  ·have e1:decide ((i:Int)<(cq d:Int))=true:=by rw[C4];omega
   have e2:IntKind.i64.wrap ((i:Int)+1)=((i+1:Nat):Int):=by rw[af]<;>omega
   simp only[RS,e1];refine(jA hS9 2).mono ?_;rintro _ w10 ⟨rfl,hS10,hf10⟩;have hP10:=hP9.keep hf10 oM;have hx10:=hf10.heap hx9 oM;have hF10:Fm (λ_=>False) w w10:=Fm.own hF9 hf10 (by rintro y rfl;omega);have hO10:=ah hO9 hf10 (λk h1 h2 h3 e=>oM);by_cases h2:2<=s.length
   ·have e3:decide (2<=s.length)=true:=by simpa using h2
    rw[e3,D8] at hS10;rw[e3,D8];have htl:(s.take 2).length=2:=by rw[E5];omega
    simp only[RS];refine(cX w10 (s.take 2) oM).mono ?_;rintro _ w10 ⟨rfl,rfl⟩;rw[dX oM];refine(jA hS10 (ofB (s.take 2))).mono ?_;rintro _ w11 ⟨rfl,hS11,hf11⟩;have hP11:=hP10.keep hf11 oM;have hx11:=hf11.heap hx10 oM;have hF11:Fm (λ_=>False) w w11:=Fm.own hF10 hf11 (by rintro y rfl;omega);have hO11:=ah hO10 hf11 (λk h1 h2 h3 e=>oM);by_cases h3:ofB (s.take 2)<=(s.drop 2).length
    ·have e4:decide (ofB (s.take 2)<=(s.drop 2).length)=true:=by simpa using h3
     rw[e4,D8] at hS11;rw[e4,D8];have hM2:=hM.next hlt h2 h3
     generalize (s.drop 2).take (ofB (s.take 2))=it at hM2;generalize (s.drop 2).drop (ofB (s.take 2))=s' at hM2 hS11;simp only[RS,hP11.c5];have hz11:x5<w11.heap.size:=aj hS11;refine dk E22 oM 66 (cs:=[stv it]) rfl (HW _ _) (by intro u hu;simp at hu;subst hu;rfl) hO11 (by unfold maxLen;omega) oM hz11 ?_;intro v12 w12 hO12 _ hf12;have hP12:=hP11.keep hf12 oM;have hx12:=hf12.heap hx11 oM;have hS12:=hS11.keep hf12 oM;have hF12:Fm (λ_=>False) w w12:=Fm.own hF11 hf12 (λy hy=>oM)
     try simp only[RS]
     refine au hP12 (by show 5<6;decide) (az hO12) ?_;intro w13 hw13 hs13 hf13
     replace hw13:PB w13 g4 (gA d (l++[it])) v12:=hw13
     simp only[RS,e2];refine⟨⟨i+1,l++[it],s',v12,rfl,oM,hM2,hw13,?_,hS12.keep hf13 oM,hf13.heap hx12 (λe=>hne4 e.symm),Fm.own hF12 hf13 (by rintro y rfl;omega)⟩,by simp only[ba];omega⟩;have:w13.ownsRow (x5+1) 9 1 v12 (l.length+1) (l.map stv++[stv it]):=ah hO12 hf13 (λk h1 h2 h3 e=>oM);simpa using this
    ·have e4:decide (ofB (s.take 2)<=(s.drop 2).length)=false:=by simpa using h3
     rw[e4];simp only[RS];refine ag (gP _) ?_;refine ao hx11 rfl rfl (by intro u hu;simp[pcs] at hu;rcases hu with rfl|rfl|rfl|rfl|rfl|rfl<;>rfl) ?_;intro w12 hw12 hs12 hf12;exact ret w11 _ 31 hx11 rfl hF11 (pC h512 hse (hM.stop hlt (λe=>h3 e.2))) w12 hw12 (Fm.own hF11 hf12 (by rintro y rfl;omega))
   ·have e3:decide (2<=s.length)=false:=by simpa using h2
    rw[e3,C8] at hS10;rw[e3,C8];simp only[RS];refine(cX w10 [] sI).mono ?_;rintro _ w10 ⟨rfl,rfl⟩;have eo:ofN []=0:=rfl;rw[eo];refine(jA hS10 0).mono ?_;rintro _ w11 ⟨rfl,hS11,hf11⟩;have hx11:=hf11.heap hx10 oM;have hF11:Fm (λ_=>False) w w11:=Fm.own hF10 hf11 (by rintro y rfl;omega);simp only[RS];refine ag (gP _) ?_;refine ao hx11 rfl rfl (by intro u hu;simp[pcs] at hu;rcases hu with rfl|rfl|rfl|rfl|rfl|rfl<;>rfl) ?_;intro w12 hw12 hs12 hf12;exact ret w11 _ 31 hx11 rfl hF11 (pC h512 hse (hM.stop hlt (λe=>h2 e.1))) w12 hw12 (Fm.own hF11 hf12 (by rintro y rfl;omega))
  ·have hie:i=cq d:=oM;rw[hie] at hM;have e1:decide ((i:Int)<(cq d:Int))=false:=by rw[C7];omega
   have hds:=xX h512 hse hM.last;simp only[RS,e1,hS9.c];refine(yZ w9 s (by have:=hM.2.2.1;omega)).mono ?_;rintro _ w10 ⟨⟨t,rfl,ht⟩,hf10⟩;have hP10:=hP9.keep hf10 id;have hx10:=hf10.heap hx9 id;have hF10:=Fmf hF9 hf10;have hO10:=ah hO9 hf10 (λ_ _ _ _ e=>e);have bad:Eo d s=true->RunS prog (Instr.build 68 #[]) w10 (λt93_149 w_150=>
     St 6 w_150 (pv x2) t93_149 λu_151 w_152=>
     Pu (aI w_152 ⟨x2,0,none⟩ 6) (λuu=>(λ(r:Value) w'=>∃cs,r=.tuple #[.agg cs,iv (dJ d).2]/\PgOw w' w.heap.size cs (dJ d).1/\Fm (λ_=>False) w w') (Value.tuple #[uu,Value.int .i64 31]) w_152)):=by
    intro hb;rw[hb,D8] at hds;refine ag (gP _) ?_;refine ao hx10 rfl rfl (by intro u hu;simp[pcs] at hu;rcases hu with rfl|rfl|rfl|rfl|rfl|rfl<;>rfl) ?_;intro w12 hw12 hs12 hf12;exact ret w10 _ 31 hx10 rfl hF10 hds w12 hw12 (Fm.own hF10 hf12 (by rintro y rfl;omega))
   have i4:ixS (stv d) (Value.int .i64 4)=some (.int .u8 (((d.getD 4 0).toNat:Nat))):=dF (k:=4) oM;have dk1:decide (((gA d l).kind)<1)=decide (cF d<1):=by rw[G9];unfold gA;simp only;omega
   have dk3:decide (3<(gA d l).kind)=decide (3<cF d):=by rw[G9];unfold gA;simp only;omega
   have d4:decide ((127:Int)<(((d.getD 4 0).toNat:Nat):Int))=decide (127<(d.getD 4 0).toNat):=by rw[G9];omega
   have ht0:decide (t=[])=decide (s=aG s.length):=by rw[G9];exact ht
   simp only[RS,cN,br,ht0];unfold Eo at bad hds;cases b1:decide (s=aG s.length) with
   | false=>
    simp only[RS];refine bad ?_;have:s≠aG s.length:=by simpa using b1
    simp[this]
   | true=>
   have b1':decide (s≠aG s.length)=false:=by simpa using b1
   rw[b1',Jf] at bad hds;simp only[RS,i4,d4];cases b2:decide (127<(d.getD 4 0).toNat) with
   | true=>simp only[RS];exact bad (by rw[b2];simp)
   | false=>
   rw[b2,Jf] at bad hds;simp only[RS,hP10.c1,dk1];cases b3:decide (cF d<1) with
   | true=>simp only[RS];exact bad (by rw[b3];simp)
   | false=>
   rw[b3,Jf] at bad hds;simp only[RS,dk3];cases b4:decide (3<cF d) with
   | true=>simp only[RS];exact bad b4
   | false=>
   rw[b4,C8] at hds;simp only[RS,hP10.all];refine ao hx10 rfl rfl (by intro u hu;simp[pcs] at hu;rcases hu with rfl|rfl|rfl|rfl|rfl|rfl<;>first|rfl|exact az hO10) ?_;intro w12 hw12 hs12 hf12;refine yy hw12 rfl ?_;rw[hds];refine⟨_,rfl,⟨⟨v,rfl,aU (ah hO10 hf12 (λk h1 h2 h3 e=>oM)) oM⟩,λx hx=>by have:=hM.2.1 x hx;omega,Aj h512 oM⟩,Fm.own hF10 hf12 (by rintro y rfl;omega)⟩
 ·intro jj hjj;have s4:slS (stv d) (some (Value.int .i64 4)) (some (Value.int .i64 12))=some (stv ((d.drop 4).take 8)):=mH (i:=4) (j:=12) oM oM .i64 .i64;have s5:slS (stv d) (some (Value.int .i64 14)) (some (Value.int .i64 18))=some (stv ((d.drop 14).take 4)):=mH (i:=14) (j:=18) oM oM .i64 .i64;have i12:ixS (stv d) (Value.int .i64 12)=some (.int .u8 ((cF d:Nat))):=dF (k:=12) oM;have i13:ixS (stv d) (Value.int .i64 13)=some (.int .u8 ((eZ d:Nat))):=dF (k:=13) oM;have c12:IntKind.i64.wrap (cF d:Nat)=((cF d:Nat):Int):=tw _;have c13:IntKind.i64.wrap (eZ d:Nat)=((eZ d:Nat):Int):=tw _;have o1:ofN ((d.drop 4).take 8)=Bt d % 2 ^ 63:=rfl;have o2:ofN ((d.drop 14).take 4)=gR d:=dX (by rw[E5];omega);have l1:((d.drop 4).take 8).length<=9223372036854775806:=by rw[E5];omega
  have l2:((d.drop 14).take 4).length<=9223372036854775806:=by rw[E5];omega
  have hf4:=Fm.drew (λ_=>False) w3;have hx4:w3.drew.heap[x2]?=some (.cells #[iv 0,iv 0,iv 0,iv 0,stv [],.slice none 0 0] 68):=hx3;have hF4:=Fmf hF3 hf4;have hz4:=hF4.size;have hx2l:=aj hx4;refine⟨λ_=>True,trivial,?_⟩;simp only[RS,s4,s5,i12,i13,bN,c12,c13,JF,and_true];generalize w3.drew=w4 at hf4 hx4 hF4 hz4 hx2l;have fin:∀(g:Nat) (w5 w6:World),w4.heap.size<=g->Fm (λ_=>False) w4 w5->w5.heap[g]?=some (.cells #[iv 0,iv 0,iv 0,iv 0,stv [],.slice none 0 0] 68)->w6.heap[g]?=some (.cells (pcs ⟨(Bt d % 2 ^ 63:Nat),cF d,eZ d,gR d,[],[]⟩ (.slice none 0 0)) 68)->Fm (·=g) w5 w6->jj [pv g] w6:=by intro g w5 w6 h1 h2 h3 h4 h5;exact hjj _ _ ⟨g,rfl,h4,oM,oM,h5.heap (h2.heap hx4 id) oM,Fm.own (Fmf hF4 h2) h5 (by rintro y rfl;omega)⟩
  have lay:∀u∈(pcs ⟨(Bt d % 2 ^ 63:Nat),cF d,eZ d,gR d,[],[]⟩ (.slice none 0 0)).toList,u.oneCell'=true:=by intro u hu;simp[pcs] at hu;rcases hu with rfl|rfl|rfl|rfl|rfl|rfl<;>rfl
  refine⟨?_,?_⟩
  ·refine(cX w4 _ l1).mono ?_;rintro _ w4 ⟨rfl,rfl⟩;rw[o1];refine⟨?_,?_⟩
   ·refine(cX w4 _ l2).mono ?_;rintro _ w4 ⟨rfl,rfl⟩;rw[o2];refine⟨_,λw5 _=>ag (wu _ _ _ _ _) ⟨rfl,rfl⟩,?_⟩;refine ae ?_;intro g w5 hg hs5 hw5 hf5;refine ao hw5 rfl rfl lay ?_;intro w6 hw6 hs6 hf6;exact fin g w5 w6 oM hf5 hw5 hw6 hf6
   ·refine ae ?_;intro g w5 hg hs5 hw5 hf5;refine(cX w5 _ l2).mono ?_;rintro _ w5 ⟨rfl,rfl⟩;rw[o2];refine ag (wu _ _ _ _ _) ⟨rfl,?_⟩;refine ao hw5 rfl rfl lay ?_;intro w6 hw6 hs6 hf6;exact fin g w5 w6 oM hf5 hw5 hw6 hf6
  ·refine ae ?_;intro g w5 hg hs5 hw5 hf5;refine(cX w5 _ l1).mono ?_;rintro _ w5 ⟨rfl,rfl⟩;rw[o1];refine(cX w5 _ l2).mono ?_;rintro _ w5 ⟨rfl,rfl⟩;rw[o2];refine ag (wu _ _ _ _ _) ⟨rfl,?_⟩;refine ao hw5 rfl rfl lay ?_;intro w6 hw6 hs6 hf6;exact fin g w5 w6 oM hf5 hw5 hw6 hf6
theorem HH:ElemT prog 57 5 1 1:=bG Tryz.underlying57 kR
theorem EE(x:Int)(w:World):(Instr.buildSlice 57 1 #[(0,.int .u8 x)]).run prog w=.ok (.slice (some ⟨w.heap.size,0,none⟩) 1 1) (w.alloc (.cells #[.int .u8 x] 5)):=kR
theorem HT(s:Bs)(w:World):(Instr.build 411 #[(0,stv s)]).run prog w=.ok (.agg #[stv s,iv 0]) w:=kR
theorem HU(w:World):(Instr.build 391 #[]).run prog w=.ok (.agg #[.slice none 0 0]) w:=kR
def RdAt(w:World)(r:Nat)(s:Bs)(e:Int):Prop:=w.heap[r]?=some (.cells #[stv s,iv e] 411)
theorem RdAt.keep{S:Nat->Prop}{w w':World}{r:Nat}{s:Bs}{e:Int}(h:RdAt w r s e)(hf:Fm S w w')(hs:¬S r):RdAt w' r s e:=hf.heap h hs
theorem RdAt.c0{w:World}{r:Nat}{s:Bs}{e:Int}(h:RdAt w r s e):w.cell? ⟨r,0,none⟩=some (stv s):=by rw[ab h];rfl
theorem RdAt.c1{w:World}{r:Nat}{s:Bs}{e:Int}(h:RdAt w r s e):w.cell? ⟨r,1,none⟩=some (iv e):=by rw[ab h];rfl
theorem RdAt.lt{w:World}{r:Nat}{s:Bs}{e:Int}(h:RdAt w r s e):r<w.heap.size:=aj h
theorem fK(w:World)(s:Bs):Cl prog 286 [stv s] w λv w'=>∃r,v=pv r/\w.heap.size<=r/\RdAt w' r s 0/\Fm (λ_=>False) w w':=by refine c286 ?_;refine ag (HT s w) (ae ?_);intro b w' hb hs hw hf;exact⟨b,rfl,oM,hw,hf⟩
theorem dN{w:World}{r:Nat}{s:Bs}{e:Int}(h:RdAt w r s e)(x:Int):Cl prog 346 [pv r,iv x] w λv w'=>v=iv 0/\RdAt w' r [] x/\Fm (·=r) w w':=by refine c346 ?_;simp only[RS,aq,cN,br];refine au h sI rfl ?_;intro w1 h1 _ hf1;refine au h1 sI rfl ?_;intro w2 h2 _ hf2;exact⟨tV,h2,hf1.trans hf2 iT iT⟩
theorem dq{w:World}{r:Nat}{s:Bs}{e:Int}(h:RdAt w r s e):Cl prog 323 [pv r] w λv w'=>v=iv e/\w'=w:=by refine c323 ?_;simp only[RS,h.c1,H7]
theorem tL{w:World}{r:Nat}{s:Bs}{e:Int}(h:RdAt w r s e):Cl prog 347 [pv r] w λv w'=>v=iv s.length/\w'=w:=by refine c347 ?_;simp only[RS,aq,cN,br,h.c0,H7]
theorem gO{w:World}{r:Nat}{s:Bs}{e:Int}(h:RdAt w r s e):Cl prog 288 [pv r] w λv w'=>v=iv (vz s e)/\w'=w:=by
 refine c288 ?_;refine(dq h).mono ?_;rintro _ w ⟨rfl,rfl⟩;unfold vz;by_cases he:e=0
 ·have e1:(e == 0)=true:=by simpa using he
  simp only[RS,e1];refine(tL h).mono ?_;rintro _ w ⟨rfl,rfl⟩;have e2:decide (e=0)=true:=by simpa using he
  by_cases hs:0<s.length
  ·have e3:decide ((0:Int)<(s.length:Int))=true:=by rw[C4];omega
   have e4:decide (0<s.length)=true:=by simpa using hs
   simp only[RS,e3,e2,e4,JN,D8];exact⟨tV,tV⟩
  ·have e3:decide ((0:Int)<(s.length:Int))=false:=by rw[C7];omega
   have e4:decide (0<s.length)=false:=by simpa using hs
   simp only[RS,e3,e2,e4,J7,C8];refine(dq h).mono ?_;rintro _ w ⟨rfl,rfl⟩;exact⟨tV,tV⟩
 ·have e1:(e == 0)=false:=by simpa using he
  have e2:decide (e=0)=false:=by simpa using he
  simp only[RS,e1,e2,Jq,C8];refine(dq h).mono ?_;rintro _ w ⟨rfl,rfl⟩;exact⟨tV,tV⟩
theorem wC{w:World}{r:Nat}{s:Bs}{e:Int}(h:RdAt w r s e)(most:Int)(hs:s.length<=9223372036854775807)(hm:most<=9223372036854775807):
  Cl prog 321 [pv r,iv most] w λv w'=>v=iv (rdNum most s e).1/\RdAt w' r (rdNum most s e).2.1 (rdNum most s e).2.2/\Fm (·=r) w w':=by
 refine c321 ?_;unfold rdNum;by_cases he:e=0
 ·subst he;simp only[RS,h.c1,bne_self_eq_false,Jm,D8];refine⟨λvs w2=>∃(k n:Nat),vs=[iv n,iv k]/\k<=9/\n<2 ^ (7*k)/\k<=s.length/\rdN most 9 0 0 s=rdN most (9 - k) k n (s.drop k)/\w2=w,λvs _=>(9 - nth vs 1).toNat,⟨0,0,rfl,oM,dC,oM,rfl,rfl⟩,?_⟩;rintro _ w2 in_ ik ⟨k,n,hvs,hk,hn,hks,heq,rfl⟩;cases hvs;by_cases hlt:k<9
  ·have e1:decide ((k:Int)<9)=true:=by rw[C4];omega
   obtain⟨f,hf⟩:∃f,9 - k=f+1:=⟨8 - k,oM⟩;rw[hf] at heq;simp only[RS,aq,cN,br,e1,h.c0];by_cases hsl:k<s.length
   ·have e2:decide ((s.length:Int)<=(k:Int))=false:=by rw[C7];omega
    have hb:s[k]?=some s[k]:=C6 hsl;rw[Jo hsl,rdN] at heq;generalize s[k]=b at hb heq;have hb256:b.toNat<256:=b.toNat_lt;have hk63:(2:Nat) ^ (7*k)<=2 ^ 56:=Nat.pow_le_pow_right dC oM;have hmod:b.toNat % 128<128:=Kj _ dC;have hpr:b.toNat % 128*2 ^ (7*k)<=127*2 ^ 56:=Nat.mul_le_mul oM hk63;have e3:vG .u8 (b.toNat:Int) 127=((b.toNat % 128:Nat):Int):=by have:=En b.toNat 127 hb256 dC;rw[Em] at this;exact this
    have e4:cvI .i64 (.int .u8 ((b.toNat % 128:Nat):Int))=some (iv ((b.toNat % 128:Nat):Int)):=by show some (iv (IntKind.i64.wrap _))=_;rw[dI oM]
    have e5:IntKind.i64.wrap (7*(k:Int))=((7*k:Nat):Int):=by rw[af]<;>omega
    have e6:=Dl (b.toNat % 128) (7*k) oM oM (TypeDesc.int .i64) .i64;have e7:orI .i64 (n:Int) ((b.toNat % 128*2 ^ (7*k):Nat):Int)=((n+b.toNat % 128*2 ^ (7*k):Nat):Int):=by rw[EZ _ _ oM oM,xT hn]
    have e8:128 ^ k=2 ^ (7*k):=by rw[Nat.pow_mul]
    rw[e8] at heq;have hn':n+b.toNat % 128*2 ^ (7*k)<2 ^ (7*(k+1)):=by
     have h1:2 ^ (7*(k+1))=128*2 ^ (7*k):=by rw[(oM:7*(k+1)=7*k+7),Nat.pow_add];omega
     have h2:b.toNat % 128*2 ^ (7*k)<=127*2 ^ (7*k):=Kc _ oM;omega
    generalize n+b.toNat % 128*2 ^ (7*k)=n' at e7 heq hn';have hn62:n'<2 ^ 63:=E3 hn' (Nat.pow_le_pow_right dC oM);simp only[RS,aq,cN,br,e2,iU hb,fJ,e3,e4,e5,e6,qu,e7];have ebz:((b.toNat:Int) == 0)=decide (b=0):=by
     rw[aV,G9];constructor
     ·intro h;apply UInt8.toNat.inj;simp;omega
     ·rintro rfl;rfl
    have cont:decide (b=0/\0<k)=false->IfB (.bool (decide ((128:Int)<=(b.toNat:Int))))
      (Pu (aC (TypeDesc.int .i64) .add (iv (k:Nat)) (Value.int .i64 1)) λt73_107=>(∃(k_1 n_1:Nat),[iv (n':Nat),t73_107]=[iv n_1,iv k_1]/\k_1<=9/\n_1<2 ^ (7*k_1)/\k_1<=s.length/\rdN most 9 0 0 s=rdN most (9 - k_1) k_1 n_1 (s.drop k_1)/\w2=w2)/\(9 - nth [iv (n':Nat),t73_107] 1).toNat<(9 - nth [iv (n:Nat),iv (k:Nat)] 1).toNat)
      (Pu (aB aQ [iv most,(Value.int .i64 0)]) λt58_108=>
      Pu (aC (TypeDesc.int .i64) .gtr (iv (n':Nat)) t58_108) λt59_109=>
      IfB t59_109
       (Cl prog 346 [pv r,(Value.int .i64 11)] w2 λv w'=>v=iv (rdN most 9 0 0 s).1/\RdAt w' r (rdN most 9 0 0 s).2.1 (rdN most 9 0 0 s).2.2/\Fm (·=r) w2 w')
       (Pu (bO (pv r)) λt64_112=>
       Pu (faV 0 t64_112) λt65_113=>
       Ld w2 t65_113 λt66_114 w_115=>
       Pu (aC (TypeDesc.int .i64) .add (iv (k:Nat)) (Value.int .i64 1)) λt68_116=>
       Pu (slS t66_114 (some t68_116) none) λt69_117=>
       Pu (bO (pv r)) λt70_118=>
       Pu (faV 0 t70_118) λt71_119=>
       St 1 w_115 t71_119 t69_117 λu_120 w_121=>
       iv (n':Nat)=iv (rdN most 9 0 0 s).1/\RdAt w_121 r (rdN most 9 0 0 s).2.1 (rdN most 9 0 0 s).2.2/\Fm (·=r) w2 w_121)):=by
     intro hz;simp only[hz,C8] at heq;have e9:IntKind.i64.wrap ((k:Int)+1)=((k+1:Nat):Int):=by rw[af]<;>omega
     by_cases hbig:128<=b.toNat
     ·have z1:decide ((128:Int)<=(b.toNat:Int))=true:=by rw[C4];omega
      have z2:decide (128<=b.toNat)=true:=by simpa using hbig
      simp only[z2,D8] at heq;simp only[RS,z1,e9];exact⟨⟨k+1,n',rfl,oM,hn',oM,by rw[heq,(oM:9 - (k+1)=f)],trivial⟩,by simp only[cK];omega⟩
     ·have z1:decide ((128:Int)<=(b.toNat:Int))=false:=by rw[C7];omega
      have z2:decide (128<=b.toNat)=false:=by simpa using hbig
      have z3:aQ (iv most) (iv 0)=some (iv (max most 0)):=by show some (iv (if (0:Int) > most then 0 else most))=_;congr 2;split<;>omega
      simp only[z2,C8] at heq;simp only[RS,z1,aB,aO,z3,IW];by_cases hmx:max most 0<(n':Int)
      ·have z4:decide (max most 0<(n':Int))=true:=by simpa using hmx
       simp only[z4,D8] at heq;simp only[RS,z4];refine(dN h 11).mono ?_;rintro _ w3 ⟨rfl,h3,hf3⟩;rw[heq];exact⟨tV,h3,hf3⟩
      ·have z4:decide (max most 0<(n':Int))=false:=by simpa using hmx
       simp only[z4,C8] at heq;have z5:=eP (l:=s) (i:=k+1) oM .i64;simp only[RS,z4,h.c0,e9,z5];refine au h sI rfl ?_;intro w3 h3 _ hf3;rw[heq];exact⟨rfl,h3,hf3⟩
    rw[ebz];by_cases hz:b=0
    ·have z1:decide (b=0)=true:=by simpa using hz
     by_cases hkp:0<k
     ·have z2:decide ((0:Int)<(k:Int))=true:=by rw[C4];omega
      have z3:decide (b=0/\0<k)=true:=by simp[hz,hkp]
      simp only[z3,D8] at heq;simp only[RS,z1,z2];refine(dN h 11).mono ?_;rintro _ w3 ⟨rfl,h3,hf3⟩;rw[heq];exact⟨tV,h3,hf3⟩
     ·have z2:decide ((0:Int)<(k:Int))=false:=by rw[C7];omega
      have c:=cont (by simp[hkp]);simp only[RS] at c;simp only[RS,z1,z2];exact c
    ·have z1:decide (b=0)=false:=by simpa using hz
     have c:=cont (by simp[hz]);simp only[RS] at c;simp only[RS,z1];exact c
   ·have e2:decide ((s.length:Int)<=(k:Int))=true:=by rw[C4];omega
    rw[JA oM,rdN] at heq;simp only[RS,e2];refine(dN h 10).mono ?_;rintro _ w3 ⟨rfl,h3,hf3⟩;rw[heq];exact⟨tV,h3,hf3⟩
  ·have hke:k=9:=oM;subst hke;have e1:decide (((9:Nat):Int)<9)=false:=rfl;rw[Jh,rdN] at heq;simp only[RS,e1];refine(dN h 11).mono ?_;rintro _ w3 ⟨rfl,h3,hf3⟩;rw[heq];exact⟨tV,h3,hf3⟩
 ·have e1:(e != 0)=true:=by rw[aF];simp[he]
  have e2:decide (e=0)=false:=by simpa using he
  simp only[RS,h.c1,e1,e2,C8];exact⟨tV,h,Fm.refl _ _⟩
def BJ(w:World)(r y:Nat):Prop:=∃v,w.heap[r]?=some (.cells #[v] 391)/\v.ownBlock=some y
def wrM(w:World)(r y:Nat):Prop:=y=r\/BJ w r y
structure WrAt (w : World) (r : Nat) (B : Bs) : Prop where
 ex : ∃ v, w.heap[r]? = some (.cells #[v] 391) ∧ w.ownsRow 0 5 1 v B.length (bc B)
theorem WrAt.keep{S:Nat->Prop}{w w':World}{r:Nat}{B:Bs}(h:WrAt w r B)(hf:Fm S w w')(hs:∀y,wrM w r y->¬S y):WrAt w' r B/\∀y,wrM w' r y↔wrM w r y:=by obtain⟨v,hv,ho⟩:=h.ex;have hr:=hf.heap hv (hs r (.inl rfl));refine⟨⟨v,hr,ah ho hf λk _ _ hk=>hs k (.inr ⟨v,hv,hk⟩)⟩,λy=>?_⟩;unfold wrM BJ;rw[hr,hv]
theorem WrAt.lt{w:World}{r:Nat}{B:Bs}(h:WrAt w r B):∀y,wrM w r y->y<w.heap.size:=by
 obtain⟨v,hv,ho⟩:=h.ex;rintro y (rfl|⟨v',hv',hy⟩)
 ·exact aj hv
 ·rw[hv] at hv';cases hv';exact(ho.lt y hy).2
theorem wB(w:World):Cl prog 247 [] w λv w'=>v=pv w.heap.size/\WrAt w' w.heap.size []/\(∀y,wrM w' w.heap.size y->y=w.heap.size)/\Fm (λ_=>False) w w':=by
 refine c247 ?_;refine ag (HU w) (ae ?_);intro b w' hb hs hw hf;subst hb;refine⟨rfl,⟨_,hw,World.ownsRow_nil _ _ _ _⟩,?_,hf⟩;rintro y (h|⟨v,hv,hy⟩)
 ·exact h
 ·rw[hw] at hv;cases hv;cases hy
theorem dm{w:World}{r:Nat}{B:Bs}(h:WrAt w r B):Cl prog 249 [pv r] w λv w'=>v=stv B/\w'=w:=by
 obtain⟨v,hv,ho⟩:=h.ex;refine c249 ?_;have c0:w.cell? ⟨r,0,none⟩=some v:=by rw[ab hv];rfl
 simp only[RS,c0];exact ag (sj B38 ho) ⟨rfl,rfl⟩
theorem HD{w:World}{r:Nat}{B:Bs}(h:WrAt w r B)(hl:B.length<=1099511627776)(x:UInt8){k:KV}(hk:∀w',WrAt w' r (B++[x])->Fm (wrM w r) w w'->(∀y,wrM w' r y->wrM w r y\/w.heap.size<=y)->k undef w'):
  Pu (bO (pv r)) λt22_71=>
   Pu (faV 0 t22_71) λt23_72=>
   Ld w t23_72 λt24_73 w_74=>
   RunS prog (Instr.buildSlice 57 1 #[(0,.int .u8 x.toNat)]) w_74 λt28_77 w_78=>
   RunS prog (Builtin.append_ #[57,57] 57 #[t24_73,t28_77]) w_78 λt29_79 w_80=>
   Pu (bO (pv r)) λt30_81=>
   Pu (faV 0 t30_81) λt31_82=>
   St 1 w_80 t31_82 t29_79 k:=by
 obtain⟨v,hv,ho⟩:=h.ex;have c0:w.cell? ⟨r,0,none⟩=some v:=by rw[ab hv];rfl
 have hrlt:=aj hv;simp only[RS,c0];refine lN HH oM 57 (cs:=[.int .u8 x.toNat]) rfl (EE _ _) (by intro u hu;simp at hu;subst hu;rfl) ho (by unfold maxLen;omega) oM (Jd _) ?_;intro v' w1 ho1 hcase
 try simp only[RS]
 have hvr:∀g,v.ownBlock=some g->g≠r:=by
  rintro g hg rfl;rcases ho.2 with⟨rfl,_⟩|⟨g',cap,cur,rfl,_,hgg,_⟩
  ·cases hg
  ·have:g'=g:=by simpa[Value.ownBlock] using hg
   subst this;rw[hv] at hgg;cases hgg
 obtain⟨S,hfS,hS1,hS2⟩:∃S:Nat->Prop,Fm S w w1/\(∀y,S y->v.ownBlock=some y)/\(∀g,v'.ownBlock=some g->v.ownBlock=some g\/w.heap.size<=g):=by
  rcases hcase with⟨g,k1,k2,k3⟩|⟨g,k1,k2,k3⟩
  ·exact⟨_,k3,λy hy=>by rw[hy];exact k1,λg' hg'=>by rw[k2] at hg';cases hg';exact .inl k1⟩
  ·exact⟨_,k3,λ_ e=>e.elim,λg' hg'=>by rw[k1] at hg';cases hg';exact .inr k2⟩
 have hv1:=hfS.heap hv (λe=>hvr r (hS1 r e) rfl);refine au hv1 sI (az ho1) ?_;intro w2 hw2 hs2 hf2;refine hk w2 ⟨v',hw2,?_⟩ (hfS.trans hf2 (λy _ e=>.inr ⟨v,hv,hS1 y e⟩) (λ_ _ e=>.inl e)) ?_
 ·have:=ah ho1 hf2 (λg _ _ hg e=>by
   have e':g=r:=e;rw[e'] at hg;rcases hS2 r hg with h1|h1
   ·exact hvr r h1 rfl
   ·omega)
  rw[C5,dp];exact this
 ·rintro y (h1|⟨v2,hv2,hy⟩)
  ·exact .inl (.inl h1)
  ·replace hw2:w2.heap[r]?=some (.cells #[v'] 391):=hw2
   rw[hw2] at hv2;cases hv2;rcases hS2 y hy with h1|h1
   ·exact .inl (.inr ⟨v,hv,h1⟩)
   ·exact .inr h1
theorem eI(c:Nat):IntKind.u8.wrap (c:Int)=((c % 256:Nat):Int):=by unfold IntKind.wrap;simp[IntKind.bits,IntKind.signed]
def bF(n:Int):Bs:=ql (max n 0).toNat
theorem qg{w:World}{r:Nat}{B:Bs}(h:WrAt w r B){v:Value}{ns:List Int}(hns:CellsAt w v ns.length 1 (ns.map iv))(hblk:ns≠[]->∀g,blockOf v=some g->¬wrM w r g)(hin:∀n∈ns,n<=9223372036854775807)
  (hl:B.length+9*ns.length<=1000000000000):
  Cl prog 248 [pv r,v] w λu w'=>WrAt w' r (B++ns.flatMap bF)/\Fm (wrM w r) w w'/\∀y,wrM w' r y->wrM w r y\/w.heap.size<=y:=by
 refine c248 ?_;simp only[RS,hns.lenV];refine⟨λvs w2=>∃k:Nat,vs=[iv k]/\k<=ns.length/\WrAt w2 r (B++(ns.take k).flatMap bF)/\Fm (wrM w r) w w2/\(∀y,wrM w2 r y->wrM w r y\/w.heap.size<=y),λvs _=>(ns.length - nth vs 0).toNat,⟨0,rfl,oM,by simpa using h,Fm.refl _ _,λ_ h=>.inl h⟩,?_⟩;rintro _ w2 ik ⟨k,hvs,hk,h2,hf2,hm2⟩;cases hvs;have elen:∀n∈ns,(bF n).length<=9:=λn hn=>(xa (by have:=hin n hn;omega)).2;have hfl:∀l:List Int,(∀n∈l,(bF n).length<=9)->(l.flatMap bF).length<=9*l.length:=by
  intro l;induction l with
  | nil=>intro _;simp
  | cons n l ih=>intro hl;have:=ih (λm hm=>hl m (by simp[hm]));have:=hl n sI;simp only[G1,C5,G2];omega
 by_cases hlt:k<ns.length
 ·have e1:decide ((k:Int)<(ns.length:Int))=true:=by rw[C4];omega
  have hx:ns[k]?=some ns[k]:=C6 hlt;have hmem:=Jk hlt;have hxin:=hin _ hmem;have hel:=elen _ hmem;have hpre:=hfl (ns.take k) (λn hn=>elen n (List.mem_of_mem_take hn));rw[E5,JL hk] at hpre;generalize ns[k]=n at hx hxin hel;obtain⟨ad,hix,_,hc⟩:=(hns.fS hf2 (λhne g hg=>hblk (λe=>hne (by rw[e];rfl)) g hg)).iS (i:=k) (x:=iv n) (by rw[E4,hx];rfl) .i64;have z3:aQ (iv n) (iv 0)=some (iv (max n 0)):=by show some (iv (if (0:Int) > n then 0 else n))=_;congr 2;split<;>omega
  simp only[RS,e1,hix,hc,aB,aO,z3,IW];obtain⟨c0,hc0⟩:=E9 (oM:0<=max n 0);have henc:bF n=ql c0:=by unfold bF;rw[hc0];rfl
  rw[hc0];have hpl:(B++(ns.take k).flatMap bF).length<=999999999991:=by rw[C5];omega
  rw[henc] at hel;generalize hP:B++(ns.take k).flatMap bF=P at h2 hpl;refine⟨λvs w3=>∃(c:Nat) (Q:Bs),vs=[iv c]/\c<=9223372036854775807/\WrAt w3 r Q/\Q++ql c=P++ql c0/\Fm (wrM w r) w w3/\(∀y,wrM w3 r y->wrM w r y\/w.heap.size<=y),λvs _=>(nth vs 0).toNat,⟨c0,P,rfl,oM,h2,rfl,hf2,hm2⟩,?_⟩;rintro _ w3 ic ⟨c,Q,hvs,hcm,h3,hQ,hf3,hm3⟩;cases hvs;have hQl:Q.length<=1000000000000:=by have:=IR List.length hQ;rw[C5,C5] at this;omega
  by_cases hbig:127<c
  ·have e2:decide ((127:Int)<(c:Int))=true:=by rw[C4];omega
   have e3:cvI .u8 (iv c)=some (.int .u8 ((c % 256:Nat):Int)):=by rw[<- eI];rfl
   have e4:orI .u8 ((c % 256:Nat):Int) 128=(((UInt8.ofNat (c % 128+128)).toNat:Nat):Int):=by have:=GY (c % 256) 128 oM dC;rw[GX oM,Nat.mod_mod_of_dvd c dC] at this;rw[iG oM];exact this
   have e5:=yL c 7 oM (TypeDesc.int .i64) .u64;simp only[RS,e2,e3,qu,e4];have key:=HD h3 oM (UInt8.ofNat (c % 128+128)) (k:=λu_83 w_84=>Pu (aC (TypeDesc.int .i64) .shr (iv c) (Value.int .u64 7)) λt19_85=>
    (∃(c:Nat) (Q:Bs),[t19_85]=[iv c]/\c<=9223372036854775807/\WrAt w_84 r Q/\Q++ql c=P++ql c0/\Fm (wrM w r) w w_84/\(∀y,wrM w_84 r y->wrM w r y\/w.heap.size<=y))/\(nth [t19_85] 0).toNat<(nth [iv (c:Nat)] 0).toNat) (by
     intro w4 h4 hf4 hm4;have hF4:Fm (wrM w r) w w4:=hf3.trans hf4 iT (λy hy e=>by rcases hm3 y e with h|h;exact h;omega);have hM4:∀y,wrM w4 r y->wrM w r y\/w.heap.size<=y:=λy hy=>by
      rcases hm4 y hy with h|h
      ·exact hm3 y h
      ·have:=hf3.size;exact .inr oM
     have e5':aC (TypeDesc.int .i64) .shr (iv c) (Value.int .u64 7)=some (iv ((c / 2 ^ 7:Nat):Int)):=e5;rw[e5',bB];refine⟨⟨c / 2 ^ 7,_,rfl,oM,h4,?_,hF4,hM4⟩,by simp only[ba];omega⟩;rw[<- hQ,gU hbig,G7];rfl)
   simp only[RS] at key;exact key
  ·have e2:decide ((127:Int)<(c:Int))=false:=by rw[C7];omega
   have e3:cvI .u8 (iv c)=some (.int .u8 (((UInt8.ofNat c).toNat:Nat):Int)):=by rw[iG oM];have:=eI c;rw[I9 oM] at this;show some (Value.int .u8 (IntKind.u8.wrap (c:Int)))=_;rw[this]
   have e6:IntKind.i64.wrap ((k:Int)+1)=((k+1:Nat):Int):=by rw[af]<;>have:=hns.lt<;>unfold maxLen at this<;>omega
   simp only[RS,e2,e3];have key:=HD h3 oM (UInt8.ofNat c) (k:=λu_97 w_98=>Pu (aC (TypeDesc.int .i64) .add (iv (k:Nat)) (Value.int .i64 1)) λt43_99=>
    (∃k:Nat,[t43_99]=[iv k]/\k<=ns.length/\WrAt w_98 r (B++(ns.take k).flatMap bF)/\Fm (wrM w r) w w_98/\(∀y,wrM w_98 r y->wrM w r y\/w.heap.size<=y))/\(ns.length - nth [t43_99] 0).toNat<(ns.length - nth [iv (k:Nat)] 0).toNat) (by
     intro w4 h4 hf4 hm4;have hF4:Fm (wrM w r) w w4:=hf3.trans hf4 iT (λy hy e=>by rcases hm3 y e with h|h;exact h;omega);have hM4:∀y,wrM w4 r y->wrM w r y\/w.heap.size<=y:=λy hy=>by
      rcases hm4 y hy with h|h
      ·exact hm3 y h
      ·have:=hf3.size;exact .inr oM
     rw[sc,bB,e6];refine⟨⟨k+1,rfl,oM,?_,hF4,hM4⟩,by simp only[ba];omega⟩;have:B++(ns.take (k+1)).flatMap bF=Q++[UInt8.ofNat c]:=by rw[H8,hx,Jr,<- G7,hP];show P++([n].flatMap bF)=_;rw[G1,Kp,H1,henc,<- hQ,dj oM]
     rw[this];exact h4)
   simp only[RS] at key;exact key
 ·have hke:k=ns.length:=oM;subst hke;have e1:decide (((ns.length:Nat):Int)<(ns.length:Int))=false:=sI;rw[IX] at h2;simp only[RS,e1];exact⟨h2,hf2,hm2⟩
structure Rc where
 lsn : Int
 prev : Int
 next : Int
 kind : Int
 xid : Int
 page : Int
 slot : Int
 old : Int
 new : Int
 redo : Int
 data : Bs
 slots : List Int
 more : List Int
 imgs : List (Int × Pg)
 pages : List (Int × Int)
 txns : List (Int × Int)
 deriving DecidableEq
def cu(l:List Int):Bs:=l.flatMap bF
def iK(s:Bs):Bs:=bF s.length++s
def dU(l:List Int):Bs:=bF l.length++cu l
def iB(s:Bs):Bs:=(s.reverse.dropWhile (· == 0)).reverse
def sJ(m:Int×Pg):Bs:=bF m.1++iK (iB (pEnc m.2).1)
def prB(p:Int×Int):Bs:=bF p.1++bF p.2
def iR(r:Rc):List Int:=[r.lsn,r.prev,r.next,r.kind,r.xid,r.page,r.slot,r.old,r.new,r.redo]
def fp(r:Rc):Bs:=cu (iR r)++iK r.data++dU r.slots++dU r.more++bF r.imgs.length++r.imgs.flatMap sJ++bF r.pages.length++r.pages.flatMap prB++bF r.txns.length++r.txns.flatMap prB
def prs(l:List (Int×Int)):List Int:=l.flatMap λp=>[p.1,p.2]
def rNums(r:Rc):List Int:=[r.lsn,r.prev,r.next,r.redo,r.xid,r.page,r.slot,r.old,r.new]++r.slots++r.more++r.imgs.map (·.1)++prs r.pages++prs r.txns
def vu(n:Int):Bool:=decide (n<0)||decide (4611686018427387904<n)
def dS:List (Int×Pg)->Int
 | []=>0
 | m::l=>bif decide (pErr m.2=0) then dS l else pErr m.2
def iu(r:Rc):Bs×Int:=bif decide (dS r.imgs=0) then(bif decide (65535<(fp r).length) then([],3) else(fp r,0)) else([],dS r.imgs)
def fi(r:Rc):Bool:=decide (512<r.data.length)||decide (255<r.slots.length)||decide (255<r.more.length)||decide (4<r.imgs.length)||decide (8192<r.pages.length)||decide (1024<r.txns.length)
def rCheck(r:Rc):Bs×Int:=
 bif decide (r.kind<1)||decide (13<r.kind) then([],41)
 else bif decide (r.lsn<1)||(rNums r).any vu then([],4)
 else bif fi r then([],3) else iu r
def lF(r:Rc):Bs×Int:=bif decide ((rCheck r).2=0) then(beN 4 (rCheck r).1.length++beN 4 (crc (rCheck r).1)++(rCheck r).1,0) else([],(rCheck r).2)
abbrev St2:=Bs×Int
def rn(most:Int)(st:St2):Int×St2:=rdNum most st.1 st.2
def rt(most:Int)(st:St2):Bs×St2:=bif decide ((rn most st).2.2=0) then(bif decide (((rn most st).2.1.length:Int)<(rn most st).1) then([],([],10)) else((rn most st).2.1.take (rn most st).1.toNat,((rn most st).2.1.drop (rn most st).1.toNat,0))) else([],(rn most st).2)
def rC:Nat->St2->List Int×St2
 | 0,st=>([],st)
 | n+1,st=>bif decide ((rn 4611686018427387904 st).2.2=0) then((rn 4611686018427387904 st).1::(rC n (rn 4611686018427387904 st).2).1,(rC n (rn 4611686018427387904 st).2).2) else([(rn 4611686018427387904 st).1],(rn 4611686018427387904 st).2)
def rl(most:Int)(st:St2):List Int×St2:=rC (rn most st).1.toNat (rn most st).2
def nG(t:Bs):Bs:=t++aG (512 - t.length)
def vA:Nat->St2->Option (List (Int×Pg)×St2)
 | 0,st=>some ([],st)
 | n+1,st=>bif decide ((dJ (nG (rt 512 (rn 4611686018427387904 st).2).1)).2=0)&&decide ((rt 512 (rn 4611686018427387904 st).2).2.2=0) then(vA n (rt 512 (rn 4611686018427387904 st).2).2).map λr=>(((rn 4611686018427387904 st).1,(dJ (nG (rt 512 (rn 4611686018427387904 st).2).1)).1)::r.1,r.2) else none
def nM:Nat->St2->Option (List (Int×Int)×St2)
 | 0,st=>some ([],st)
 | n+1,st=>bif decide (st.2=0) then(nM n (rn 4611686018427387904 (rn 4611686018427387904 st).2).2).map λr=>(((rn 4611686018427387904 st).1,(rn 4611686018427387904 (rn 4611686018427387904 st).2).1)::r.1,r.2) else none
def ten(s:Bs):List Int×St2:=
 let a0:=rn 4611686018427387904 (s,0);let a1:=rn 4611686018427387904 a0.2;let a2:=rn 4611686018427387904 a1.2;let a3:=rn 13 a2.2;let a4:=rn 4611686018427387904 a3.2;let a5:=rn 4611686018427387904 a4.2;let a6:=rn 4611686018427387904 a5.2;let a7:=rn 4611686018427387904 a6.2;let a8:=rn 4611686018427387904 a7.2;let a9:=rn 4611686018427387904 a8.2
 ([a0.1,a1.1,a2.1,a3.1,a4.1,a5.1,a6.1,a7.1,a8.1,a9.1],a9.2)
end Go.Proofs.YtmdmffeoehfjgaaGreatDoor
