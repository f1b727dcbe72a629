/- Part of a proof: contracts and plain laws. -/
import Derived.Lib.ValidLaws
import Derived.Test.YtodpdjehjllhdaaGreatDoorZ02
import Derived.Shelf.Small.Bits
import Derived.Shelf.Small.Strs
import Derived.Shelf.Small.Wraps
import Derived.Shelf.Strconv.Itoa0
import Derived.Shelf.Strconv.Itoa1
import Derived.Shelf.LaysM
import Derived.Shelf.Strconv.Itoa2
import Derived.Shelf.Strconv.Itoa3
import Derived.Shelf.Strings.Search1
import Derived.Shelf.Strings.Prefix
import Derived.Shelf.Bits.Mul64
import Derived.Shelf.Unicode.ValidAny
import Derived.Ground.Names2Prog
import Derived.Shelf.Slices.SearchI
import Derived.Test.YtodpdjehjllhdaaGreatDoorProg
import Derived.Lib.AppendIntMem
set_option linter.unusedVariables false
set_option maxRecDepth 100000
set_option maxHeartbeats 20000000
namespace Go.Proofs.YtodpdjehjllhdaaGreatDoor
open Go.RowKit
def eC(n:Int):Bool:=decide (0≤n∧n≤1114111)&& !decide (55296≤n∧n≤57343)
def ee(n:Int):Nat:=if eC n then(if n<128 then 1 else if n<2048 then 2 else if n<65536 then 3 else 4) else 0
def fP(l:List UInt8):Option (Nat×Nat):=if l=[]∨Lib.decodeL l=(65533,1) then none else some (Lib.decodeL l)
def bH(l:List UInt8)(i:Nat):Nat:=(l.getD i 0).toNat
def dv(l:List UInt8)(n0:Nat):Nat→Int|0=>n0|j+1=>64*dv l n0 j+bH l (j+1)-128
def eN(x:Nat):Option (Nat×Nat):=if x<128 then some (1,x) else if 192≤x∧x≤223 then some (2,x-192) else if 224≤x∧x≤239 then some (3,x-224) else if 240≤x∧x≤247 then some (4,x-240) else none
theorem fk(l:List UInt8)(i:Nat):bH l i<256:=(l.getD i 0).toNat_lt
theorem jW{l:List UInt8}(hl:0<l.length):fP l=if Lib.decodeN l.length (bH l 0) (bH l 1) (bH l 2) (bH l 3)=(65533,1) then none else some (Lib.decodeN l.length (bH l 0) (bH l 1) (bH l 2) (bH l 3)):=by
 have hne:l≠[]:=fun e=>by subst e;simp at hl
 unfold fP;rw[Lib.decodeL_N];simp only[hne,false_or];rfl
theorem nB{l:List UInt8}(hl:0<l.length)(h:eN (bH l 0)=none):fP l=none:=by
 rw[jW hl];have h0:=fk l 0;unfold eN at h;generalize bH l 0=x at*;have hx: ¬x<128∧x/32≠6∧x/16≠14∧x/8≠30:=by split at h;(·cases h);·split at h;(·cases h);·split at h;(·cases h);·split at h;(·cases h);·omega
 have e:Lib.decodeN l.length x (bH l 1) (bH l 2) (bH l 3)=(65533,1):=by unfold Lib.decodeN;rw[if_neg hx.1,if_neg (by omega),if_neg (by omega),if_neg (by omega)]
 rw[e,if_pos rfl]
theorem vf{l:List UInt8}(hl:0<l.length)(h:bH l 0<128):fP l=some (bH l 0,1):=by
 rw[jW hl];have e:Lib.decodeN l.length (bH l 0) (bH l 1) (bH l 2) (bH l 3)=(bH l 0,1):=by unfold Lib.decodeN;rw[if_pos h]
 rw[e,if_neg (by intro e;injection e with e1 e2;omega)]
theorem dP{x W n0:Nat}(h:eN x=some (W,n0))(hx:x<256):(W=1∧n0=x∧x<128)∨(W=2∧x/32=6∧n0=x%32)∨(W=3∧x/16=14∧n0=x%16)∨(W=4∧x/8=30∧n0=x%8):=by
 unfold eN at h;split at h;·injection h with h;injection h with h1 h2;omega
 ·split at h;·injection h with h;injection h with h1 h2;omega
  ·split at h;·injection h with h;injection h with h1 h2;omega
   ·split at h;·injection h with h;injection h with h1 h2;omega
    ·cases h
theorem jz{l:List UInt8}{W n0:Nat}(hl:0<l.length)(h:eN (bH l 0)=some (W,n0))(hs:l.length<W):fP l=none:=by
 have hb:=fk l 0;rw[jW hl];have e:Lib.decodeN l.length (bH l 0) (bH l 1) (bH l 2) (bH l 3)=(65533,1)→(if Lib.decodeN l.length (bH l 0) (bH l 1) (bH l 2) (bH l 3)=(65533,1) then none else some (Lib.decodeN l.length (bH l 0) (bH l 1) (bH l 2) (bH l 3)))=none:=fun e=>by rw[if_pos e]
 refine e ?_;unfold Lib.decodeN;rcases dP h hb with⟨h1,h2,h3⟩|⟨h1,h2,h3⟩|⟨h1,h2,h3⟩|⟨h1,h2,h3⟩;·omega
 all_goals rw[if_neg (by omega),if_neg (by omega),if_neg (by omega),if_neg (by omega)]
def cT(y:Nat):Prop:=128≤y∧y≤191
instance (y : Nat) : Decidable (cT y) := by unfold cT; infer_instance
theorem nx{l:List UInt8}{W n0 j:Nat}(hl:0<l.length)(h:eN (bH l 0)=some (W,n0))(hj:1≤j)(hjW:j<W)(hb: ¬cT (bH l j)):fP l=none:=by
 have h0:=fk l 0;rw[jW hl];unfold cT at hb;have e:Lib.decodeN l.length (bH l 0) (bH l 1) (bH l 2) (bH l 3)=(65533,1)→(if Lib.decodeN l.length (bH l 0) (bH l 1) (bH l 2) (bH l 3)=(65533,1) then none else some (Lib.decodeN l.length (bH l 0) (bH l 1) (bH l 2) (bH l 3)))=none:=fun e=>by rw[if_pos e]
 refine e ?_;unfold Lib.decodeN;have hj3:j=1∨j=2∨j=3:=by rcases dP h h0 with⟨h1,h2,h3⟩|⟨h1,h2,h3⟩|⟨h1,h2,h3⟩|⟨h1,h2,h3⟩<;>omega
 have k1:=fk l 1;have k2:=fk l 2;have k3:=fk l 3;have hbb:(j=1∧bH l 1/64≠2)∨(j=2∧bH l 2/64≠2)∨(j=3∧bH l 3/64≠2):=by rcases hj3 with rfl|rfl|rfl;(·left;exact⟨rfl,by omega⟩);(·right;left;exact⟨rfl,by omega⟩);·right;right;exact⟨rfl,by omega⟩
 rcases dP h h0 with⟨h1,h2,h3⟩|⟨h1,h2,h3⟩|⟨h1,h2,h3⟩|⟨h1,h2,h3⟩;·omega
 all_goals rw[if_neg (by omega),if_neg (by omega),if_neg (by omega),if_neg (by omega)]
theorem uJ{l:List UInt8}{n0 j:Nat}(hc: ∀i,1≤i→i≤j→cT (bH l i)): ∃m:Nat,dv l n0 j=m∧m<(n0+1)*64^j:=by
 induction j with|zero=>exact⟨n0,rfl,by simp⟩|succ j ih=>obtain⟨m,h1,h2⟩:=ih (fun i hi hi2=>hc i hi (by omega));obtain⟨c1,c2⟩:=hc (j+1) (by omega) (by omega);refine⟨64*m+(bH l (j+1)-128),?_,?_⟩;(·rw[dv,h1];omega);·rw[Nat.pow_succ,←Nat.mul_assoc];generalize(n0+1)*64^j=z at h2;omega
theorem dJ(n:Int):eC n=true↔0≤n∧n≤1114111∧(n<55296∨57343<n):=by
 unfold eC;simp only[Bool.and_eq_true,decide_eq_true_eq,Bool.not_eq_true',decide_eq_false_iff_not];omega
theorem eM(n:Int):(ee n=0∧eC n=false)∨(ee n=1∧0≤n∧n<128)∨(ee n=2∧128≤n∧n<2048)∨(ee n=3∧2048≤n∧n<65536∧(n<55296∨57343<n))∨(ee n=4∧65536≤n∧n≤1114111):=by
 unfold ee;cases h:eC n;·left;simp
 ·have:=(dJ n).1 h;simp only[if_true];split;·omega
  ·split;·omega
   ·split<;>omega
theorem fH{d:Nat×Nat}(h:d=(65533,1)):(if d=(65533,1) then none else some d)=none:=by
 rw[if_pos h]
theorem rR{d:Nat×Nat}{z W:Nat}(h:d=(z,W))(hW:W≠1):(if d=(65533,1) then none else some d)=some (z,W):=by
 rw[if_neg (by rw[h];intro e;injection e with e1 e2;exact hW e2),h]
theorem kH{l:List UInt8}{W n0:Nat}(hl:0<l.length)(h:eN (bH l 0)=some (W,n0))(hs:W≤l.length)(hc: ∀i,1≤i→i<W→cT (bH l i)):(ee (dv l n0 (W-1))=W→fP l=some ((dv l n0 (W-1)).toNat,W))∧(ee (dv l n0 (W-1))≠W→fP l=none):=by
 have h0:=fk l 0;have k1:=fk l 1;have k2:=fk l 2;have k3:=fk l 3;rw[jW hl];rcases dP h h0 with⟨rfl,rfl,h3⟩|⟨rfl,h2,rfl⟩|⟨rfl,h2,rfl⟩|⟨rfl,h2,rfl⟩
 ·have e:Lib.decodeN l.length (bH l 0) (bH l 1) (bH l 2) (bH l 3)=(bH l 0,1):=by unfold Lib.decodeN;rw[if_pos h3]
  rw[e];have e2:dv l (bH l 0) (1-1)=bH l 0:=rfl;rw[e2];refine⟨fun _=> ?_,fun hw=>absurd ?_ hw⟩;·rw[if_neg (by intro e;injection e with e1 e2;omega)];simp
  ·rcases eM (bH l 0:Int) with h|h|h|h|h;·have:=h.2;rw[Bool.eq_false_iff] at this;exact absurd ((dJ _).2 (by omega)) this
   all_goals omega
 ·have c1:=hc 1 (by omega) (by omega);unfold cT at c1;have e2:dv l (bH l 0%32) (2-1)=((bH l 0%32*64+bH l 1%64:Nat):Int):=by show dv l _ 1=_;rw[dv,dv];simp only[Nat.zero_add,Nat.reduceAdd];omega
  rw[e2];generalize hz:bH l 0%32*64+bH l 1%64=z;have hz2:z<2048:=by omega
  have e:Lib.decodeN l.length (bH l 0) (bH l 1) (bH l 2) (bH l 3)=if z≥128 then(z,2) else(65533,1):=by unfold Lib.decodeN;rw[if_neg (by omega),if_pos (by omega),hz]
  rcases eM (z:Int) with h|h|h|h|h;·have:=h.2;rw[Bool.eq_false_iff] at this;exact absurd ((dJ _).2 (by omega)) this
  ·rw[fH (e.trans (if_neg (by omega)))];exact⟨fun hw=>by omega,fun _=>rfl⟩
  ·rw[rR (e.trans (if_pos (by omega))) (by omega)];exact⟨fun _=>by simp,fun hw=>by omega⟩
  all_goals omega
 ·have c1:=hc 1 (by omega) (by omega);have c2:=hc 2 (by omega) (by omega);unfold cT at c1 c2;have e2:dv l (bH l 0%16) (3-1)=((bH l 0%16*4096+bH l 1%64*64+bH l 2%64:Nat):Int):=by show dv l _ 2=_;rw[dv,dv,dv];simp only[Nat.zero_add,Nat.reduceAdd];omega
  rw[e2];generalize hz:bH l 0%16*4096+bH l 1%64*64+bH l 2%64=z;have hz2:z<65536:=by omega
  have e:Lib.decodeN l.length (bH l 0) (bH l 1) (bH l 2) (bH l 3)=if z≥2048∧(z<55296∨(57344≤z∧z≤1114111)) then(z,3) else(65533,1):=by unfold Lib.decodeN;rw[if_neg (by omega),if_neg (by omega),if_pos (by omega),hz]
  rcases eM (z:Int) with h|h|h|h|h;·have:=h.2;rw[Bool.eq_false_iff,Ne,dJ] at this;rw[fH (e.trans (if_neg (by omega)))];exact⟨fun hw=>by omega,fun _=>rfl⟩
  ·rw[fH (e.trans (if_neg (by omega)))];exact⟨fun hw=>by omega,fun _=>rfl⟩
  ·rw[fH (e.trans (if_neg (by omega)))];exact⟨fun hw=>by omega,fun _=>rfl⟩
  ·rw[rR (e.trans (if_pos (by omega))) (by omega)];exact⟨fun _=>by simp,fun hw=>by omega⟩
  ·omega
 ·have c1:=hc 1 (by omega) (by omega);have c2:=hc 2 (by omega) (by omega);have c3:=hc 3 (by omega) (by omega);unfold cT at c1 c2 c3;have e2:dv l (bH l 0%8) (4-1)=((bH l 0%8*262144+bH l 1%64*4096+bH l 2%64*64+bH l 3%64:Nat):Int):=by show dv l _ 3=_;rw[dv,dv,dv,dv];simp only[Nat.zero_add,Nat.reduceAdd];omega
  rw[e2];generalize hz:bH l 0%8*262144+bH l 1%64*4096+bH l 2%64*64+bH l 3%64=z;have e:Lib.decodeN l.length (bH l 0) (bH l 1) (bH l 2) (bH l 3)=if z≥65536∧(z<55296∨(57344≤z∧z≤1114111)) then(z,4) else(65533,1):=by unfold Lib.decodeN;rw[if_neg (by omega),if_neg (by omega),if_neg (by omega),if_pos (by omega),hz]
  rcases eM (z:Int) with h|h|h|h|h;·have:=h.2;rw[Bool.eq_false_iff,Ne,dJ] at this;rw[fH (e.trans (if_neg (by omega)))];exact⟨fun hw=>by omega,fun _=>rfl⟩
  ·rw[fH (e.trans (if_neg (by omega)))];exact⟨fun hw=>by omega,fun _=>rfl⟩
  ·rw[fH (e.trans (if_neg (by omega)))];exact⟨fun hw=>by omega,fun _=>rfl⟩
  ·rw[fH (e.trans (if_neg (by omega)))];exact⟨fun hw=>by omega,fun _=>rfl⟩
  ·rw[rR (e.trans (if_pos (by omega))) (by omega)];exact⟨fun _=>by simp,fun hw=>by omega⟩
def bW(s:ByteArray):Bool:=Lib.validD s.data.toList
theorem qs{l:List UInt8}(hl:0<l.length):(fP l=none→Lib.validD l=false)∧(∀n w,fP l=some (n,w)→Lib.validD l=Lib.validD (l.drop w)∧1≤w∧w≤l.length):=by
 have hne:l≠[]:=fun e=>by subst e;simp at hl
 rw[Lib.validD_step l hne];have hw:1≤(Lib.decodeL l).2∧(Lib.decodeL l).2≤l.length:=by refine⟨Lib.decodeL_width l,?_⟩;rw[Lib.decodeL_N];rcases Lib.decodeN_shape l.length (l.getD 0 0).toNat (l.getD 1 0).toNat (l.getD 2 0).toNat (l.getD 3 0).toNat with⟨_,e⟩|⟨_,h,_,_,e⟩|⟨_,h,_,_,_,_,e⟩|⟨_,h,_,_,_,_,_,e⟩|e<;>rw[e]<;>simp only<;>omega
 unfold fP;simp only[hne,false_or];refine⟨fun h=> ?_,fun n w h=> ?_⟩
 ·split at h;·rename_i e;rw[e];rfl
  ·cases h
 ·split at h;·cases h
  ·rename_i e;injection h with h;rw[if_neg (fun h2=>e (Prod.ext h2.1 h2.2)),h];rw[h] at hw;simp only at hw;exact⟨rfl,hw.1,hw.2⟩
def ae(v:aa):Bool:=if v.kind=1 then decide (v.n=0∧v.x=0∧v.s=.empty∧v.l=[]) else if v.kind=2 then decide (0≤v.n∧v.n≤1)&&decide (v.x=0∧v.s=.empty∧v.l=[]) else if v.kind=3 then decide (-1000000000000000≤v.n∧v.n≤1000000000000000)&&decide (v.x=0∧v.s=.empty∧v.l=[]) else if v.kind=4 then a8 v.n v.x&&decide (v.s=.empty∧v.l=[]) else if v.kind=5 then decide (0≤v.n∧v.n≤2)&&decide (v.x=0∧v.s=.empty∧v.l=[]) else if v.kind=6 then aT v.n v.x&&decide (v.x<0∧v.s=.empty∧v.l=[]) else if v.kind=7 then decide (v.n=0∧v.x=0)&&(bW v.s&&decide (v.l=[])) else if v.kind=8 then decide (v.n=0∧v.x=0∧v.l=[]) else if v.kind=9 then decide (v.n=0∧v.x=0∧v.s=.empty) else if v.kind=10 then decide (v.n=0∧v.x=0∧v.s=.empty∧v.l.length%2=0) else if v.kind=11 then decide (0≤v.n∧v.n≤1000000000000000)&&decide (v.x=0∧v.s=.empty∧v.l.length=1) else false
mutual
def valOkP : aa → Bool
  | ⟨k, n, x, s, l⟩ => ae ⟨k, n, x, s, l⟩ && valsOkP l
def valsOkP : List aa → Bool
  | [] => true
  | a :: l => valOkP a && valsOkP l
end
theorem bG(v:aa):valOkP v=(ae v&&valsOkP v.l):=by
 cases v;rw[valOkP]
theorem da: ∀l:List aa,valsOkP l=l.all valOkP|[]=>rfl|a::l=>by rw[valsOkP,List.all_cons,da l]
theorem eW(l:List aa)(a:aa):valsOkP (l++[a])=(valsOkP l&&valOkP a):=by
 rw[da,List.all_append,←da];simp
theorem qf{l:List aa}{k:Nat}(hk:k<l.length)(e:valOkP l[k]=false):valsOkP l=false:=by
 rw[da,List.all_eq_false];exact⟨l[k],List.getElem_mem hk,by simp[e]⟩
theorem bo{l:List aa}(h:valsOkP l=true){k:Nat}(hk:k<l.length):valOkP l[k]=true:=by
 rw[da,List.all_eq_true] at h;exact h _ (List.getElem_mem hk)
theorem bm{v:aa}(h:valOkP v=true):ae v=true∧valsOkP v.l=true:=by
 rw[bG,Bool.and_eq_true] at h;exact h
def tt(_:Unit)(v:aa):Unit×Bool:=((),ae v)
mutual
theorem evG_ok : ∀ v : aa, evG tt v () = ((), valOkP v)
  | ⟨k, n, x, s, l⟩ => by
    rw [evG, valOkP]
    unfold tt
    cases h : ae ⟨k, n, x, s, l⟩
    · rfl
    · simp only [Bool.true_and]
      exact evL_ok l
theorem evL_ok : ∀ l : List aa, evL tt l () = ((), valsOkP l)
  | [] => rfl
  | a :: l => by
    rw [evL, valsOkP, evG_ok a]
    cases h : valOkP a
    · rfl
    · simp only [Bool.true_and]
      exact evL_ok l
end
section
def Kept(F:List Nat)(w w':World):Prop:=w'.os=w.os∧w'.tape=w.tape∧w'.output=w.output∧w.heap.size≤w'.heap.size∧ ∀b,b<w.heap.size→b∉F→w'.heap[b]? =w.heap[b]?
theorem Kept.refl(F:List Nat)(w:World):Kept F w w:=⟨rfl,rfl,rfl,Nat.le_refl _,fun _ _ _=>rfl⟩
theorem Kept.trans{F:List Nat}{a b c:World}(h:Kept F a b)(k:Kept F b c):Kept F a c:=⟨k.1.trans h.1,k.2.1.trans h.2.1,k.2.2.1.trans h.2.2.1,Nat.le_trans h.2.2.2.1 k.2.2.2.1,fun x hx hF=>(k.2.2.2.2 x (Nat.lt_of_lt_of_le hx h.2.2.2.1) hF).trans (h.2.2.2.2 x hx hF)⟩
theorem Kept.mono{F F':List Nat}{w w':World}(h:Kept F w w')(hF: ∀b,b∈F→b∈F'):Kept F' w w':=⟨h.1,h.2.1,h.2.2.1,h.2.2.2.1,fun b hb hn=>h.2.2.2.2 b hb fun hm=>hn (hF b hm)⟩
theorem Kept.ay{F:List Nat}{w w':World}(h:Below w.heap.size w w'):Kept F w w':=⟨h.os,h.tape,h.output,h.size,fun b hb _=>h.block b hb⟩
theorem Kept.below{F:List Nat}{w w':World}{base:Nat}(h:Kept F w w')(hb:base≤w.heap.size)(hF: ∀b,b∈F→base≤b):Below base w w':=⟨h.1,h.2.1,h.2.2.1,h.2.2.2.1,fun b hlt=>h.2.2.2.2 b (by omega) fun hm=>by have:=hF b hm;omega⟩
theorem Kept.set{F:List Nat}{w:World}{p:Addr}(hp:p.block∈F)(u:Value):Kept F w (w.setCell p u):=⟨rfl,rfl,rfl,by simp[World.setCell],fun b _ hn=>Below.heap_setCell w p u b (fun e=>hn (e▸hp))⟩
section
variable {α : Type} [aG α]
def uo(base g off:Nat)(done rest:List α)(F:List Nat)(w:World):Prop:= ∃F1 F2 x1 x2,F=F1++F2∧aH w done F1 x1∧aH w rest F2 x2∧aZ w g off (x1++x2)∧b7 base w (g::F)
variable {base g off c : Nat} {done rest : List α} {F : List Nat} {w w' : World}
theorem uo.below(h:uo base g off done rest F w)(hb:Below w.heap.size w w'):uo base g off done rest F w':=by
 obtain⟨F1,F2,x1,x2,rfl,h1,h2,h3,h4⟩:=h;have hlt: ∀b,b∈g::(F1++F2)→b<w.heap.size:=fun b hm=>(h4.2 b hm).2.lt;exact⟨F1,F2,x1,x2,rfl,h1.an fun b hm=>hb.block b (hlt b (by simp[hm])),h2.an fun b hm=>hb.block b (hlt b (by simp[hm])),h3.an (hb.block g (hlt g (by simp))),h4.below hb⟩
end
def byteOf(n:Int):UInt8:=UInt8.ofNat (n%256).toNat
theorem fi(n:Int):((byteOf n).toNat:Int)=n%256:=by
 unfold byteOf;rw[UInt8.toNat_ofNat_of_lt' (by simp[UInt8.size];omega)];omega
end
end Go.Proofs.YtodpdjehjllhdaaGreatDoor
namespace Go.Proofs
open Go.Shelf
def Tryz.pU:Go.Shelf.Ren:=⟨fun|134=>352|129=>341|n=>n,fun|53=>211|3=>3|4=>4|46=>158|5=>5|9=>9|n=>n,fun|n=>n⟩
theorem Tryz.vT:Go.Proofs.Lays.n134 Tryz.prog Tryz.pU:={mixed:=by kernel_rfl,f129:=Tryz.func341.trans (congrArg some (by kernel_rfl)),f134:=Tryz.func352.trans (congrArg some (by kernel_rfl)),t3:=Tryz.underlying3,a3:=Tryz.isAgg3,z3:=Tryz.sizeOf3,v3:=Tryz.zeroValue3,t4:=Tryz.underlying4,a4:=Tryz.isAgg4,z4:=Tryz.sizeOf4,v4:=Tryz.zeroValue4,t5:=Tryz.underlying5,a5:=Tryz.isAgg5,z5:=Tryz.sizeOf5,v5:=Tryz.zeroValue5,t9:=Tryz.underlying9,a9:=Tryz.isAgg9,z9:=Tryz.sizeOf9,v9:=Tryz.zeroValue9,t46:=Tryz.underlying158,a46:=Tryz.isAgg158,z46:=Tryz.sizeOf158,v46:=Tryz.zeroValue158,t53:=Tryz.underlying211,a53:=Tryz.isAgg211,z53:=Tryz.sizeOf211,v53:=Tryz.zeroValue211}
theorem Tryz.bits_LeadingZeros64(x:Int)(w:World)(h0:0≤x)(h1:x≤18446744073709551615):Calls Tryz.prog 352 #[.int .u64 x] w fun e w'=>e=.returned (.int .i64 (64-(Lib.bitLen x.toNat:Int)))∧w'=w:=Any.bits_LeadingZeros64 Tryz.vT x w h0 h1
def Tryz.qc:Go.Shelf.Ren:=⟨fun|196=>242|259=>276|n=>n,fun|9=>9|4=>4|3=>3|5=>5|12=>12|119=>204|0=>0|46=>158|139=>207|138=>206|53=>211|n=>n,fun|3=>0|4=>1|n=>n⟩
theorem Tryz.sQ:Go.Proofs.Lays.n196 Tryz.prog Tryz.qc:={mixed:=by kernel_rfl,f196:=Tryz.func242.trans (congrArg some (by kernel_rfl)),f259:=Tryz.func276.trans (congrArg some (by kernel_rfl)),t0:=Tryz.underlying0,a0:=Tryz.isAgg0,z0:=Tryz.sizeOf0,v0:=Tryz.zeroValue0,t3:=Tryz.underlying3,a3:=Tryz.isAgg3,z3:=Tryz.sizeOf3,v3:=Tryz.zeroValue3,t4:=Tryz.underlying4,a4:=Tryz.isAgg4,z4:=Tryz.sizeOf4,v4:=Tryz.zeroValue4,t5:=Tryz.underlying5,a5:=Tryz.isAgg5,z5:=Tryz.sizeOf5,v5:=Tryz.zeroValue5,t9:=Tryz.underlying9,a9:=Tryz.isAgg9,z9:=Tryz.sizeOf9,v9:=Tryz.zeroValue9,t12:=Tryz.underlying12,a12:=Tryz.isAgg12,z12:=Tryz.sizeOf12,v12:=Tryz.zeroValue12,t46:=Tryz.underlying158,a46:=Tryz.isAgg158,z46:=Tryz.sizeOf158,v46:=Tryz.zeroValue158,t53:=Tryz.underlying211,a53:=Tryz.isAgg211,z53:=Tryz.sizeOf211,v53:=Tryz.zeroValue211,t119:=Tryz.underlying204,a119:=Tryz.isAgg204,z119:=Tryz.sizeOf204,t138:=Tryz.underlying206,a138:=Tryz.isAgg206,z138:=Tryz.sizeOf206,v138:=Tryz.zeroValue206,t139:=Tryz.underlying207,a139:=Tryz.isAgg207,z139:=Tryz.sizeOf207,v139:=Tryz.zeroValue207,g3:=by kernel_rfl,g4:=by kernel_rfl}
open Go.RowKit in theorem Tryz.utf8_ValidString(s:ByteArray)(w:World)(hs:s.size≤9223372036854775807)(hT:Lib.Utf8Tabs 0 1 w):Calls Tryz.prog 242 #[.string s] w fun e w'=>e=.returned (.bool (Lib.validD s.data.toList))∧Below w.heap.size w w':=Any.utf8_ValidString Tryz.sQ s w hs hT
def Tryz.vX:Go.Shelf.Ren:=⟨fun|210=>353|206=>350|n=>n,fun|9=>9|4=>4|3=>3|n=>n,fun|n=>n⟩
def Tryz.wb:Go.Shelf.Ren:=⟨fun|215=>161|n=>n,fun|3=>3|4=>4|n=>n,fun|n=>n⟩
def Tryz.qy:Go.Shelf.Ren:=⟨fun|122=>99|215=>161|n=>n,fun|3=>3|4=>4|n=>n,fun|n=>n⟩
theorem Tryz.vB:Go.Proofs.Lays.n122 Tryz.prog Tryz.qy:={mixed:=by kernel_rfl,f122:=Tryz.func99.trans (congrArg some (by kernel_rfl)),f215:=Tryz.func161.trans (congrArg some (by kernel_rfl)),t3:=Tryz.underlying3,a3:=Tryz.isAgg3,z3:=Tryz.sizeOf3,v3:=Tryz.zeroValue3,t4:=Tryz.underlying4,a4:=Tryz.isAgg4,z4:=Tryz.sizeOf4,v4:=Tryz.zeroValue4}
open Go.RowKit in theorem Tryz.cmp_Compare_int(x y:Int)(w:World):Calls Tryz.prog 99 #[.int .i64 x,.int .i64 y] w fun e w'=>e=.returned (.int .i64 (Lib.compareInt x y))∧w'=w:=Any.cmp_Compare_int Tryz.vB x y w
def Tryz.vq:Go.Shelf.Ren:=⟨fun|246=>267|283=>307|284=>308|285=>309|286=>310|129=>341|317=>340|318=>342|319=>343|320=>344|337=>361|338=>362|n=>n,fun|2=>2|3=>3|9=>9|4=>4|171=>225|0=>0|53=>211|37=>22|5=>5|173=>228|212=>244|51=>245|20=>20|213=>246|46=>158|232=>254|233=>255|n=>n,fun|17=>3|18=>6|19=>7|n=>n⟩
def Tryz.vC:Go.Shelf.Ren:=⟨fun|243=>226|246=>267|283=>307|284=>308|285=>309|286=>310|129=>341|317=>340|318=>342|319=>343|320=>344|337=>361|338=>362|n=>n,fun|3=>3|9=>9|2=>2|4=>4|171=>225|0=>0|53=>211|37=>22|5=>5|173=>228|212=>244|51=>245|20=>20|213=>246|46=>158|232=>254|233=>255|n=>n,fun|17=>3|18=>6|19=>7|n=>n⟩
def Tryz.pO:Go.Shelf.Ren:=⟨fun|171=>164|243=>226|246=>267|283=>307|284=>308|285=>309|286=>310|129=>341|317=>340|318=>342|319=>343|320=>344|337=>361|338=>362|n=>n,fun|3=>3|9=>9|2=>2|4=>4|171=>225|0=>0|53=>211|37=>22|5=>5|173=>228|212=>244|51=>245|20=>20|213=>246|46=>158|232=>254|233=>255|n=>n,fun|17=>3|18=>6|19=>7|n=>n⟩
theorem Tryz.uZ:Go.Proofs.LaysM.n171 Tryz.prog Tryz.pO:={mixed:=by kernel_rfl,f129:=Tryz.func341.trans (congrArg some (by kernel_rfl)),f171:=Tryz.func164.trans (congrArg some (by kernel_rfl)),f243:=Tryz.func226.trans (congrArg some (by kernel_rfl)),f246:=Tryz.func267.trans (congrArg some (by kernel_rfl)),f283:=Tryz.func307.trans (congrArg some (by kernel_rfl)),f284:=Tryz.func308.trans (congrArg some (by kernel_rfl)),f285:=Tryz.func309.trans (congrArg some (by kernel_rfl)),f286:=Tryz.func310.trans (congrArg some (by kernel_rfl)),f317:=Tryz.func340.trans (congrArg some (by kernel_rfl)),f318:=Tryz.func342.trans (congrArg some (by kernel_rfl)),f319:=Tryz.func343.trans (congrArg some (by kernel_rfl)),f320:=Tryz.func344.trans (congrArg some (by kernel_rfl)),f337:=Tryz.func361.trans (congrArg some (by kernel_rfl)),f338:=Tryz.func362.trans (congrArg some (by kernel_rfl)),t0:=Tryz.underlying0,a0:=Tryz.isAgg0,z0:=Tryz.sizeOf0,v0:=Tryz.zeroValue0,t2:=Tryz.underlying2,a2:=Tryz.isAgg2,z2:=Tryz.sizeOf2,v2:=Tryz.zeroValue2,t3:=Tryz.underlying3,a3:=Tryz.isAgg3,z3:=Tryz.sizeOf3,v3:=Tryz.zeroValue3,t4:=Tryz.underlying4,a4:=Tryz.isAgg4,z4:=Tryz.sizeOf4,v4:=Tryz.zeroValue4,t5:=Tryz.underlying5,a5:=Tryz.isAgg5,z5:=Tryz.sizeOf5,v5:=Tryz.zeroValue5,t9:=Tryz.underlying9,a9:=Tryz.isAgg9,z9:=Tryz.sizeOf9,v9:=Tryz.zeroValue9,t20:=Tryz.underlying20,a20:=Tryz.isAgg20,z20:=Tryz.sizeOf20,v20:=Tryz.zeroValue20,t37:=Tryz.underlying22,a37:=Tryz.isAgg22,z37:=Tryz.sizeOf22,v37:=Tryz.zeroValue22,t46:=Tryz.underlying158,a46:=Tryz.isAgg158,z46:=Tryz.sizeOf158,v46:=Tryz.zeroValue158,t51:=Tryz.underlying245,a51:=Tryz.isAgg245,z51:=Tryz.sizeOf245,v51:=Tryz.zeroValue245,t53:=Tryz.underlying211,a53:=Tryz.isAgg211,z53:=Tryz.sizeOf211,v53:=Tryz.zeroValue211,t171:=Tryz.underlying225,a171:=Tryz.isAgg225,z171:=Tryz.sizeOf225,v171:=Tryz.zeroValue225,t173:=Tryz.underlying228,a173:=Tryz.isAgg228,z173:=Tryz.sizeOf228,v173:=Tryz.zeroValue228,t212:=Tryz.underlying244,a212:=Tryz.isAgg244,z212:=Tryz.sizeOf244,v212:=Tryz.zeroValue244,t213:=Tryz.underlying246,a213:=Tryz.isAgg246,z213:=Tryz.sizeOf246,t232:=Tryz.underlying254,a232:=Tryz.isAgg254,z232:=Tryz.sizeOf254,v232:=Tryz.zeroValue254,t233:=Tryz.underlying255,a233:=Tryz.isAgg255,z233:=Tryz.sizeOf255,v233:=Tryz.zeroValue255,g17:=by kernel_rfl,g18:=by kernel_rfl,g19:=by kernel_rfl,i0:=by kernel_rfl,i2:=by kernel_rfl,i3:=by kernel_rfl,i4:=by kernel_rfl,i5:=by kernel_rfl,i9:=by kernel_rfl,i20:=by kernel_rfl,i37:=by kernel_rfl,i46:=by kernel_rfl,i51:=by kernel_rfl,i53:=by kernel_rfl,i171:=by kernel_rfl,i173:=by kernel_rfl,i212:=by kernel_rfl,i232:=by kernel_rfl,i233:=by kernel_rfl,m17:=by kernel_rfl,m18:=by kernel_rfl,m19:=by kernel_rfl}
open Go.RowKit Go.Sort Go.Lib in theorem Tryz.strconv_Itoa(n:Int)(h0: -9223372036854775808≤n)(h1:n≤9223372036854775807)(w:World)(htab:Lib.TabIs Tryz.prog w "internal/strconv.uint64pow10" .u64 Lib.pow10Tab):Calls Tryz.prog 164 #[.int .i64 n] w fun e w'=>e=.returned (.string ⟨(Lib.itoa n).toArray⟩)∧ ∃k os,w'=grow (w.drewN k) os:=Any.strconv_Itoa Tryz.uZ n h0 h1 w htab
def Tryz.pX:Go.Shelf.Ren:=⟨fun|101=>277|208=>319|206=>350|n=>n,fun|9=>9|4=>4|3=>3|n=>n,fun|n=>n⟩
theorem Tryz.vR:Go.Proofs.Lays.n101 Tryz.prog Tryz.pX:={mixed:=by kernel_rfl,f101:=Tryz.func277.trans (congrArg some (by kernel_rfl)),f206:=Tryz.func350.trans (congrArg some (by kernel_rfl)),f208:=Tryz.func319.trans (congrArg some (by kernel_rfl)),t3:=Tryz.underlying3,a3:=Tryz.isAgg3,z3:=Tryz.sizeOf3,v3:=Tryz.zeroValue3,t4:=Tryz.underlying4,a4:=Tryz.isAgg4,z4:=Tryz.sizeOf4,v4:=Tryz.zeroValue4,t9:=Tryz.underlying9,a9:=Tryz.isAgg9,z9:=Tryz.sizeOf9,v9:=Tryz.zeroValue9}
open Go.RowKit Go.Lib in theorem Tryz.strings_TrimPrefix(s p:ByteArray)(w:World):Calls Tryz.prog 277 #[.string s,.string p] w fun e w'=>e=.returned (.string ⟨(Lib.trimPrefix s.data.toList p.data.toList).toArray⟩)∧w'=w:=Any.strings_TrimPrefix Tryz.vR s p w
def Tryz.qk:Go.Shelf.Ren:=⟨fun|264=>285|n=>n,fun|53=>211|46=>158|n=>n,fun|n=>n⟩
theorem Tryz.vj:Go.Proofs.Lays.n264 Tryz.prog Tryz.qk:={mixed:=by kernel_rfl,f264:=Tryz.func285.trans (congrArg some (by kernel_rfl)),t46:=Tryz.underlying158,a46:=Tryz.isAgg158,z46:=Tryz.sizeOf158,v46:=Tryz.zeroValue158,t53:=Tryz.underlying211,a53:=Tryz.isAgg211,z53:=Tryz.sizeOf211,v53:=Tryz.zeroValue211}
open Go.RowKit Go.Lib in theorem Tryz.bits_Mul64(x y:Nat)(hx:x<18446744073709551616)(hy:y<18446744073709551616)(w:World):Calls Tryz.prog 285 #[.int .u64 x,.int .u64 y] w fun e w'=>e=.returned (.tuple #[.int .u64 ((x*y/18446744073709551616:Nat):Int),.int .u64 ((x*y%18446744073709551616:Nat):Int)])∧w'=w:=Any.bits_Mul64 Tryz.vj x y hx hy w
end Go.Proofs
namespace Go.Proofs.YtodpdjehjllhdaaGreatDoor
open Go.RowKit
section
open Go.RowKit Go.Sort
def pK(w:World):Prop:=Lib.TabIs Tryz.prog w "internal/strconv.uint64pow10" .u64 Lib.pow10Tab
theorem pK.below{w w':World}(h:pK w)(hb:Below w.heap.size w w'):pK w':=Lib.tabBelow_of_tabIs h w' hb
theorem below_grow(w:World)(k:Nat)(os:Array Obj):Below w.heap.size w (grow (w.drewN k) os):=⟨rfl,rfl,rfl,by simp[grow,World.drewN],fun b hb=>by simp[grow,World.drewN,Array.getElem?_append_left hb]⟩
def ed(n:Int):ByteArray:=strOf (Lib.itoa n)
theorem jb: ∀(k u:Nat),u<10^(k+1)→(Lib.decDigits u).length≤k+1|0,u,h=>by rw[Lib.decDigits,dif_pos (by simpa using h)];simp|k+1,u,h=>by rw[Lib.decDigits];split;(·simp);·(have h2:u/10<10^(k+1):=by rw[Nat.pow_succ] at h;omega);have:=jb k (u/10) h2;simp;omega
theorem eZ(a b:List UInt8):strOf a++strOf b=strOf (a++b):=by
 apply ByteArray.ext;simp[strOf]
theorem wH(u:Nat):byteOf (48+(u:Int)%10)=UInt8.ofNat (48+u%10):=by
 unfold byteOf;congr 1;omega
theorem re{u0 u:Nat}{sl:List UInt8}(hu:0<u)(h:Lib.decDigits u++sl=Lib.decDigits u0):(0<u/10→Lib.decDigits (u/10)++(byteOf (48+(u:Int)%10)::sl)=Lib.decDigits u0)∧(u/10=0→byteOf (48+(u:Int)%10)::sl=Lib.decDigits u0):=by
 rw[wH];rw[Lib.decDigits] at h;split at h;·rename_i hlt;refine⟨fun h2=>by omega,fun _=> ?_⟩;rw[←h,show u%10=u by omega];rfl
 ·rename_i hge;refine⟨fun _=>by rw[←h,List.append_assoc];rfl,fun h2=>by omega⟩
theorem sZ{u0 u:Nat}{sl:List UInt8}(h0:u0≤9223372036854775808)(h:(0<u→Lib.decDigits u++sl=Lib.decDigits u0)∧(u=0→sl=Lib.decDigits u0)):sl.length≤19:=by
 have h1:=jb 18 u0 (by omega);rcases Nat.eq_zero_or_pos u with e|e;·rw[h.2 e];omega
 ·have:=congrArg List.length (h.1 e);rw[List.length_append] at this;omega
theorem gE(n:Int)(w:World)(hI:aX n)(ht:pK w):Calls Tryz.prog 106 #[.int .i64 n] w (cd w (.string (ed n))):=by
 have hC:=Tryz.strconv_Itoa n hI.1 hI.2 w ht;have HC:=xQ hC;clear hC ht;go_enter Tryz.func106,Tryz.ntmps106;go_wp2_with fail;refine HC.out.mono ?_;rintro e w1 ⟨rfl,k,os,hw1⟩;have hb:Below w.heap.size w w1:=by rw[hw1];exact below_grow w k os
 have HB:=xQ hb;clear hb hw1;go_wp2_with fail;go_ret;exact⟨rfl,HB.out⟩
theorem lO(n:Int)(w:World)(hI:aX n):Calls Tryz.prog 109 #[.int .i64 n] w (cd w (.string (ed n))):=by
 obtain⟨r,hr⟩: ∃r,r=ed n:=⟨_,rfl⟩;rw[←hr];have hi1:=hI.1;have hi2:=hI.2;by_cases h0:n=0
 ·subst h0;have hr0:r=strOf [48]:=by rw[hr];unfold ed Lib.itoa;rw[if_neg (by omega),Lib.decDigits,dif_pos (by simp)];rfl
  have R:=xQ hr0;clear hr hr0;go_enter Tryz.func109,Tryz.ntmps109;go_wp2_with fail;go_ret;exact⟨by rw[R.out];rfl,af w⟩
 ·have hn0:(n==0)=false:=by rw[beq_eq_false_iff_ne];exact h0
  have h0':n≠0:=h0;by_cases hneg:n<0
  ·obtain⟨u0,hu0,hu1⟩: ∃u:Nat,n= -(u:Int)∧0<u:=⟨n.natAbs,by omega,by omega⟩;have hr0:r=strOf (45::Lib.decDigits u0):=by rw[hr];unfold ed Lib.itoa;rw[if_pos hneg];congr 2;rw[show n.natAbs=u0 by omega]
   have R:=xQ hr0;clear hr hr0;have hul:u0≤9223372036854775808:=by omega
   subst hu0;go_enter Tryz.func109,Tryz.ntmps109;go_wp2_with fail;go_loopg[3,4,5] u0 (fun gk ss xx dd wr=> ∃(u:Nat) (sl:List UInt8),ss=.string (strOf sl)∧xx=.int .i64 (-(u:Int))∧gk=u∧u≤u0∧Hid ((0<u→Lib.decDigits u++sl=Lib.decDigits u0)∧(u=0→sl=Lib.decDigits u0))∧Below w.heap.size w wr);case atStart=>exact⟨u0,[],rfl,rfl,rfl,by omega,⟨fun _=>by simp,fun h=>by omega⟩,af w⟩
   case round=>
    obtain⟨u,sl,rfl,rfl,hgk,hul0,hT,hbel⟩:=hrel;subst hgk;have hsl:=sZ hul hT.out;have hz:(strOf sl).size≤20:=by rw[cL];omega
    rcases Nat.eq_zero_or_pos gk with rfl|hpos
    ·have he:sl=Lib.decDigits u0:=hT.out.2 rfl;have HE:=xQ he;clear he;have hz2: ¬(9223372036854775807<1+(strOf sl).size):=by omega
     go_wp2_with fail;go_ret;exact⟨by rw[R.out,←HE.out];rfl,hbel⟩
    ·have hq:((-(gk:Int)) != 0)=true:=by simp;omega
     have ht1:(-(gk:Int)).tmod 10= -((gk:Int)%10):=by rw[Int.neg_tmod,Int.tmod_eq_emod_of_nonneg (by omega)]
     have ht2:(-(gk:Int)).tdiv 10= -((gk:Int)/10):=by rw[Int.neg_tdiv,Int.tdiv_eq_ediv_of_nonneg (by omega)]
     have hx10:(-((gk:Int)/10))=(-((gk/10:Nat):Int)):=by omega
     have HS:=xQ (re hpos (hT.out.1 hpos));rcases Int.lt_or_le 0 ((gk:Int)%10) with hm|hm
     ·have hm': ¬((gk:Int)%10≤0):=by omega
      have hmm:(0:Int)≤(gk:Int)%10:=by omega
      have hs:SA (wr.alloc (.cells #[.int .u8 (48+(gk:Int)%10)] 5)) [byteOf (48+(gk:Int)%10)] (some ⟨wr.heap.size,0,none⟩) 1:=by have:=(aC.pJ (RF.byte (base:=wr.heap.size) (w:=wr) (byteOf (48+(gk:Int)%10))) 5 (Nat.le_refl _)).sf.2.sa;rw[fi,Int.emod_eq_of_lt (by omega) (by omega)] at this;exact this
      have hcv:=a6 (P:=Tryz.prog) Tryz.underlying22 Tryz.underlying5 Tryz.underlying9 hs;rw[List.length_singleton] at hcv;have hsz:(strOf [byteOf (48+(gk:Int)%10)]).size=1:=by simp[cL]
      have hz2: ¬(9223372036854775807<(strOf [byteOf (48+(gk:Int)%10)]).size+(strOf sl).size):=by omega
      have HB:=xQ (show Below w.heap.size w (wr.alloc (.cells #[.int .u8 (48+(gk:Int)%10)] 5)) from ab hbel _);clear hs;go_wp2_with fail;go_roundg(gk/10);case measure=>omega
      case rel=>exact⟨gk/10,byteOf (48+(gk:Int)%10)::sl,by rw[eZ];rfl,congrArg (Value.int .i64) hx10,rfl,by omega,HS.out,HB.out⟩
     ·have hm0:(gk:Int)%10=0:=by omega
      have hs:SA (wr.alloc (.cells #[.int .u8 48] 5)) [byteOf 48] (some ⟨wr.heap.size,0,none⟩) 1:=by have:=(aC.pJ (RF.byte (base:=wr.heap.size) (w:=wr) (byteOf 48)) 5 (Nat.le_refl _)).sf.2.sa;rw[fi,Int.emod_eq_of_lt (by omega) (by omega)] at this;exact this
      have hcv:=a6 (P:=Tryz.prog) Tryz.underlying22 Tryz.underlying5 Tryz.underlying9 hs;rw[List.length_singleton] at hcv;have hsz:(strOf [byteOf 48]).size=1:=by simp[cL]
      have hz2: ¬(9223372036854775807<(strOf [byteOf 48]).size+(strOf sl).size):=by omega
      have HB:=xQ (show Below w.heap.size w (wr.alloc (.cells #[.int .u8 48] 5)) from ab hbel _);have hS2:=HS.out;rw[hm0,Int.add_zero] at hS2;have HS2:=xQ hS2;clear hs hS2 hm;go_wp2_with fail;go_roundg(gk/10);case measure=>omega
      case rel=>exact⟨gk/10,byteOf 48::sl,by rw[eZ];rfl,congrArg (Value.int .i64) hx10,rfl,by omega,HS2.out,HB.out⟩
  ·obtain⟨u0,hu0,hu1⟩: ∃u:Nat,n=(u:Int)∧0<u:=⟨n.toNat,by omega,by omega⟩;have hr0:r=strOf (Lib.decDigits u0):=by rw[hr];unfold ed Lib.itoa;rw[if_neg hneg];congr 2;omega
   have R:=xQ hr0;clear hr hr0;have hul:u0≤9223372036854775808:=by omega
   subst hu0;have hneg2:decide ((u0:Int)<0)=false:=decide_eq_false hneg;go_enter Tryz.func109,Tryz.ntmps109;go_wp2_with fail;go_loopg[3,4,5] u0 (fun gk ss xx dd wr=> ∃(u:Nat) (kc:Int) (sl:List UInt8),ss=.string (strOf sl)∧xx=.int .i64 kc∧Hid (kc=(u:Int))∧0≤kc∧kc≤9223372036854775807∧gk=u∧u≤u0∧Hid ((0<u→Lib.decDigits u++sl=Lib.decDigits u0)∧(u=0→sl=Lib.decDigits u0))∧Below w.heap.size w wr);case atStart=>exact⟨u0,u0,[],rfl,rfl,rfl,by omega,by omega,rfl,by omega,⟨fun _=>by simp,fun h=>by omega⟩,af w⟩
   case round=>
    obtain⟨u,kc,sl,rfl,rfl,hkc,hk0,hk1,hgk,hul0,hT,hbel⟩:=hrel;subst hgk;have hsl:=sZ hul hT.out;have hz:(strOf sl).size≤20:=by rw[cL];omega
    rcases Nat.eq_zero_or_pos gk with rfl|hpos
    ·have hk00:kc=0:=hkc.out;subst hk00;have he:sl=Lib.decDigits u0:=hT.out.2 rfl;have HE:=xQ he;clear he;have hz2: ¬(9223372036854775807<1+(strOf sl).size):=by omega
     go_wp2_with fail;go_ret;exact⟨by rw[R.out,←HE.out];rfl,hbel⟩
    ·have hkk:=hkc.out;have hq:(kc != 0)=true:=by simp;omega
     have hx10:Hid (kc/10=((gk/10:Nat):Int)):=by show _=_;omega
     have hx11:(0:Int)≤kc/10:=by omega
     have hx12:kc/10≤9223372036854775807:=by omega
     have HS0:=re hpos (hT.out.1 hpos);rw[←hkk] at HS0;have HS:=xQ HS0;clear HS0 hkk;rcases Int.lt_or_le 0 (kc%10) with hm|hm
     ·have hm': ¬(kc%10≤0):=by omega
      have hmm:(0:Int)≤kc%10:=by omega
      have hs:SA (wr.alloc (.cells #[.int .u8 (48+kc%10)] 5)) [byteOf (48+kc%10)] (some ⟨wr.heap.size,0,none⟩) 1:=by have:=(aC.pJ (RF.byte (base:=wr.heap.size) (w:=wr) (byteOf (48+kc%10))) 5 (Nat.le_refl _)).sf.2.sa;rw[fi,Int.emod_eq_of_lt (by omega) (by omega)] at this;exact this
      have hcv:=a6 (P:=Tryz.prog) Tryz.underlying22 Tryz.underlying5 Tryz.underlying9 hs;rw[List.length_singleton] at hcv;have hsz:(strOf [byteOf (48+kc%10)]).size=1:=by simp[cL]
      have hz2: ¬(9223372036854775807<(strOf [byteOf (48+kc%10)]).size+(strOf sl).size):=by omega
      have HB:=xQ (show Below w.heap.size w (wr.alloc (.cells #[.int .u8 (48+kc%10)] 5)) from ab hbel _);clear hs;go_wp2_with fail;go_roundg(gk/10);case measure=>omega
      case rel=>exact⟨gk/10,kc/10,byteOf (48+kc%10)::sl,by rw[eZ];rfl,rfl,hx10,hx11,hx12,rfl,by omega,HS.out,HB.out⟩
     ·have hm0:kc%10=0:=by omega
      have hs:SA (wr.alloc (.cells #[.int .u8 48] 5)) [byteOf 48] (some ⟨wr.heap.size,0,none⟩) 1:=by have:=(aC.pJ (RF.byte (base:=wr.heap.size) (w:=wr) (byteOf 48)) 5 (Nat.le_refl _)).sf.2.sa;rw[fi,Int.emod_eq_of_lt (by omega) (by omega)] at this;exact this
      have hcv:=a6 (P:=Tryz.prog) Tryz.underlying22 Tryz.underlying5 Tryz.underlying9 hs;rw[List.length_singleton] at hcv;have hsz:(strOf [byteOf 48]).size=1:=by simp[cL]
      have hz2: ¬(9223372036854775807<(strOf [byteOf 48]).size+(strOf sl).size):=by omega
      have HB:=xQ (show Below w.heap.size w (wr.alloc (.cells #[.int .u8 48] 5)) from ab hbel _);have hS2:=HS.out;rw[hm0,Int.add_zero] at hS2;have HS2:=xQ hS2;clear hs hS2 hm;go_wp2_with fail;go_roundg(gk/10);case measure=>omega
      case rel=>exact⟨gk/10,kc/10,byteOf 48::sl,by rw[eZ];rfl,rfl,hx10,hx11,hx12,rfl,by omega,HS2.out,HB.out⟩
end
end Go.Proofs.YtodpdjehjllhdaaGreatDoor
