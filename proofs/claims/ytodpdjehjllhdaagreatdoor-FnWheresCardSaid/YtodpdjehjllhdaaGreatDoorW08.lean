/- Part of a proof: contracts and plain laws. -/
import Derived.Test.YtodpdjehjllhdaaGreatDoorW07
import Derived.BigQuiet
import Derived.Deep.QuietTactic
set_option linter.unusedVariables false
set_option linter.unusedSimpArgs false
set_option maxRecDepth 100000
set_option maxHeartbeats 20000000
namespace Go.Proofs.YtodpdjehjllhdaaGreatDoor
open Go.RowKit
theorem sH{a p:Nat}(hp:0<p)(e:Int): ∀k:Nat,gm a p (e+k)≤gm a p e|0=>by simp|k+1=>by have h1:=nD a p hp (e+k);have h2:=sH (a:=a) hp e k;rw[show e+((k+1:Nat):Int)=e+k+1 by omega,h1];omega
theorem wt{a p:Nat}(hp:0<p){e e':Int}(h:e≤e'):gm a p e'≤gm a p e:=by
 have:=sH (a:=a) hp e (e'-e).toNat;rwa[show e+((e'-e).toNat:Int)=e' by omega] at this
theorem ji(a p e:Nat):gm a p e=a/p/2^e:=by
 unfold gm l6 fu;rw[show(-(e:Int)).toNat=0 by omega,Int.toNat_natCast,Nat.pow_zero,Nat.mul_one,Nat.div_div_eq_div_mul]
theorem wQ(a p:Nat):gm a p 0=a/p:=by
 have h:=ji a p 0;rw[Nat.pow_zero,Nat.div_one] at h;exact h
theorem qA(a p s:Nat):gm a p (-(s:Int))=a*2^s/p:=by
 unfold gm l6 fu;rw[show(- -(s:Int)).toNat=s by omega,show(-(s:Int)).toNat=0 by omega,Nat.pow_zero,Nat.mul_one]
theorem uu(a p s:Nat):wb a p (-(s:Int))=a*2^s%p∧fu p (-(s:Int))=p:=by
 unfold wb l6 fu;rw[show(- -(s:Int)).toNat=s by omega,show(-(s:Int)).toNat=0 by omega,Nat.pow_zero,Nat.mul_one];exact⟨rfl,rfl⟩
theorem xV(a p e:Nat):wb a p e=a%p+p*(a/p%2^e)∧fu p e=p*2^e:=by
 unfold wb l6 fu;rw[show(-(e:Int)).toNat=0 by omega,Int.toNat_natCast,Nat.pow_zero,Nat.mul_one,Nat.mod_mul];exact⟨rfl,rfl⟩
theorem sZ{a p e:Nat}(hp:0<p)(h1:a/p<65536*2^e)(h2: ∀e',e'<e→65536*2^e'≤a/p)(he:0<e):fO a p e:=by
 refine⟨?_,fun e' h3 h4=> ?_⟩
 ·rw[ji];have:a/p/2^e<65536:=by rw[Nat.div_lt_iff_lt_mul (Nat.pow_pos (by omega))];exact h1
  omega
 ·have h5:=wt (a:=a) hp (show e'≤((e-1:Nat):Int) by omega);have h6:65536≤gm a p ((e-1:Nat):Int):=by rw[ji,Nat.le_div_iff_mul_le (Nat.pow_pos (by omega))];exact h2 _ (by omega)
  omega
theorem oj{a p:Nat}{e:Int}(hp:0<p)(h1:gm a p e≤65535)(h2:e= -16∨65535<gm a p (e-1))(he: -16≤e):fO a p e:=by
 refine⟨h1,fun e' h3 h4=> ?_⟩;rcases h2 with h2|h2;·omega
 ·have:=wt (a:=a) hp (show e'≤e-1 by omega);omega
theorem wL{r p L T:Nat}(hr:r<p):(T<L∨(L=T∧0<r)→p*(2*T)<2*(r+p*L))∧(L=T∧r=0→2*(r+p*L)=p*(2*T))∧(L<T→2*(r+p*L)<p*(2*T)):=by
 have e:p*(2*T)=2*(p*T):=by rw[Nat.mul_left_comm]
 rw[e];refine⟨fun h=> ?_,fun h=> ?_,fun h=> ?_⟩
 ·rcases h with h|⟨h,h2⟩;·have:=Nat.mul_le_mul_left p (show T+1≤L from h);rw[Nat.mul_add,Nat.mul_one] at this;omega
  ·subst h;omega
 ·rw[h.1,h.2];omega
 ·have:=Nat.mul_le_mul_left p (show L+1≤T from h);rw[Nat.mul_add,Nat.mul_one] at this;omega
def qu(a p:Nat)(e:Int)(q:Nat)(v12 v13:Value):Prop:=q=gm a p e∧((v12=.int .i64 (-1)∧(∃b,v13=.bool b)∧dT a p e=q)∨(v12=.int .i64 1∧v13=.bool true∧dT a p e=q+1)∨(v12=.int .i64 0∧v13=.bool true∧dT a p e=if q%2=1 then q+1 else q))
theorem pX{a p:Nat}{e:Int}(v12 v13:Value)(h:(v12=.int .i64 (-1)∧(∃b,v13=.bool b)∧2*wb a p e<fu p e)∨(v12=.int .i64 1∧v13=.bool true∧fu p e<2*wb a p e)∨(v12=.int .i64 0∧v13=.bool true∧2*wb a p e=fu p e)):qu a p e (gm a p e) v12 v13:=by
 refine⟨rfl,?_⟩;unfold dT;rcases h with⟨h1,h2,h3⟩|⟨h1,h2,h3⟩|⟨h1,h2,h3⟩;·exact .inl ⟨h1,h2,if_neg (by omega)⟩
 ·exact .inr (.inl ⟨h1,h2,if_pos (.inl h3)⟩)
 ·refine .inr (.inr ⟨h1,h2,?_⟩);by_cases h:gm a p e%2=1;·rw[if_pos h,if_pos (.inr ⟨h3,h⟩)]
  ·rw[if_neg h,if_neg (by omega)]
theorem vi{a p s:Nat}:qu a p (-(s:Int)) (a*2^s/p) (.int .i64 (if 2*(a*2^s%p)<p then-1 else if p<2*(a*2^s%p) then 1 else 0)) (.bool (if 2*(a*2^s%p)<p then decide (0<a*2^s%p) else true)):=by
 rw[←qA];apply pX;rw[(uu a p s).1,(uu a p s).2];by_cases h1:2*(a*2^s%p)<p;·rw[if_pos h1,if_pos h1];exact .inl ⟨rfl,⟨_,rfl⟩,h1⟩
 ·rw[if_neg h1,if_neg h1];by_cases h2:p<2*(a*2^s%p);·rw[if_pos h2];exact .inr (.inl ⟨rfl,rfl,h2⟩)
  ·rw[if_neg h2];exact .inr (.inr ⟨rfl,rfl,by omega⟩)
theorem yP{T V:Nat}(hT:T=65536*2^0)(hc: ¬(T≤V)):V<65536:=by
 rw[Nat.pow_zero,Nat.mul_one] at hT;omega
theorem xQ{a p V:Nat}(hV:V=a/p)(h:V<65536):gm a p 0≤65535:=by
 rw[wQ,←hV];omega
theorem we{a p s:Nat}{e2:Int}(hp:0<p)(hs:1-e2=s)(h:gm a p e2≤65535):gm a p (e2-1)=a*2^s/p∧a*2^s/p≤131071:=by
 have h1:gm a p (e2-1)=a*2^s/p:=by rw[←qA];congr 1;omega
 have hst:=nD a p hp (e2-1);rw[show e2-1+1=e2 by omega,h1] at hst;exact⟨h1,by omega⟩
theorem wl{L V:Nat}(h:L≤V)(hV:V<100000000000000000):wrap64 (L:Int)=(L:Int):=by
 unfold wrap64;omega
theorem zw{n e:Int}{a p rm:Nat}{r:Option (Int×Int)}(hp:0<p)(h:fO a p e)(h0: -16≤e)(hrm:dT a p e=rm)(hr:r=bz (lT n rm) e):rm≤65536∧(rm=65536→r=bz (lT n 32768) (e+1))∧(rm=65536→30<e+1→r=none)∧(rm≠65536→30<e→r=none):=by
 refine⟨by rw[←hrm];exact pB h.1,fun h1=> ?_,fun h1 h2=> ?_,fun h1 h2=> ?_⟩;·rw[hr,h1,kQ]
 ·rw[hr,h1,kQ];exact mF (by rw[kC];exact Nat.le_refl _) (by omega)
 ·rw[hr];have h3:=tz hp h (by omega);have h4:=vR a p e;exact mF (by rw[kC];omega) (by omega)
theorem Ae{T V e:Nat}(hT:T=65536*2^e)(hc:T≤V)(hV:V<100000000000000000)(he:e≤42):e+1≤42:=by
 apply Nat.lt_of_not_le;intro h;have h2:2^42≤2^e:=Nat.pow_le_pow_right (by omega) h;omega
theorem xJ{T V e:Nat}(h: ∀e',e'<e→65536*2^e'≤V)(hT:T=65536*2^e)(hc:T≤V): ∀e',e'<e+1→65536*2^e'≤V:=fun e' h1=>by rcases Nat.lt_succ_iff_lt_or_eq.1 h1 with h2|h2;(·exact h e' h2);·rw[h2,←hT];exact hc
theorem du(n x:Int)(w:World)(hok:aV n x=true)(hn0: -100000000000000000<n)(hn1:n<100000000000000000)(hx0: -16≤x)(hx1:x≤0):Calls Tryz.prog 317 #[.agg #[.int .i64 n,.int .i64 x]] w (bW w (bo (eL n x))):=by
 have B0:=AJ (ab (ab (ae w) (.cells #[.int .i64 n,.int .i64 x] 108)) (.cells #[.int .i64 0,.int .i64 0] 104));have P0:=AJ ((ai.new w 108 #[.int .i64 n,.int .i64 x]).alloc (.cells #[.int .i64 0,.int .i64 0] 104));have P1:=AJ (ai.at (w:=w.alloc (.cells #[.int .i64 n,.int .i64 x] 108)) (g:=w.heap.size+1) (t:=104) (cs:=#[.int .i64 0,.int .i64 0]) (by simp));obtain⟨k,hk⟩: ∃k:Nat,-x=k:=⟨(-x).toNat,by omega⟩;obtain⟨p,hp⟩: ∃p,p=10^k:=⟨_,rfl⟩;obtain⟨a,ha⟩: ∃a,a=n.natAbs:=⟨_,rfl⟩;obtain⟨r,hr⟩: ∃r,r=eL n x:=⟨_,rfl⟩;rw[←hr];have hp0:0<p:=by rw[hp];exact Nat.pow_pos (by omega)
 have hp1:p≤10000000000000000:=by have:10^k≤10^16:=Nat.pow_le_pow_right (by omega) (by omega);omega
 have hPow: ∀w,Calls Tryz.prog 236 #[.int .i64 10,.int .i64 (k:Int)] w (bW w (.int .i64 (p:Int))):=fun w=>by rw[hp];exact vP k w (by omega)
 have hI:aT n:=⟨by omega,by omega⟩;have hrr: ∀e,fO a p e→ -16≤e→e≤50→r=bz (lT n (dT a p e)) e:=fun e h0 h1 h2=>by(have hkx:(-x).toNat=k:=by omega);rw[hr,sL (by rw[hkx,←hp,←ha];exact h0) h1 h2,hkx,←hp];unfold uz;rw[←ha]
 have HI:=AJ (AH hI (AH hok (AH hPow (AH hrr ha))));clear hI hok hPow hrr hr hp;have ha1:a<100000000000000000:=by omega
 clear ha;have hnx:IntKind.i64.wrap (-x)=(k:Int):=by rw[IntKind.wrap_i64];omega
 go_enter Tryz.func317,Tryz.ntmps317;go_wp2_with fail;refine(bw n x _ HI.out.1).mono ?_;rintro e w1 ⟨rfl,hb1⟩;rw[HI.out.2.1];have Q0:=AJ (P0.out.below hb1);have Q1:=AJ (P1.out.below hb1);have B1:=AJ (ak B0.out hb1);clear hb1;have hz1:w.heap.size+1<w1.heap.size:=Q1.out.lt;obtain⟨p0,p1⟩:=Q0.out.c2;go_upto_if 26 with fail;go_cut[4,5] (fun s4 s5 wx=> ∃sg:Int,s4=.int .i64 (a:Int)∧s5=.int .i64 sg∧(sg=1∨sg= -1)∧Hid (∀m:Nat,sg*m=lT n m)∧wx=w1)
 case first=>
  by_cases hneg:n<0
  ·have hnw:IntKind.i64.wrap (-n)=(a:Int):=by have h:=HI.out.2.2.2.2;rw[IntKind.wrap_i64];omega
   go_wp2_with fail;go_meet;exact⟨-1,rfl,rfl,.inr rfl,fun m=>by unfold lT;rw[if_pos hneg];omega,rfl⟩
  ·go_wp2_with fail;go_meet;exact⟨1,by congr 1;have:=HI.out.2.2.2.2;omega,rfl,.inl rfl,fun m=>by unfold lT;rw[if_neg (by omega)];omega,rfl⟩
 case rest=>
  obtain⟨sg,rfl,rfl,hsg,hsgn,rfl⟩:=hcut;obtain⟨V,hV⟩: ∃V,V=a/p:=⟨_,rfl⟩;have hV1:V<100000000000000000:=by rw[hV];have:=Nat.div_le_self a p;omega
  have htd:(a:Int).tdiv p=(V:Int):=by rw[Int.tdiv_eq_ediv_of_nonneg (by omega),hV];rfl
  have htm:(a:Int).tmod p=((a%p:Nat):Int):=by rw[Int.tmod_eq_emod_of_nonneg (by omega)];rfl
  have hpi:(0:Int)<p:=by omega
  have HV:=AJ hV;clear hV;go_wp2_with fail;refine(HI.out.2.2.1 _).mono ?_;rintro e w2 ⟨rfl,hb2⟩;have R0:=AJ (Q0.out.below hb2);have R1:=AJ (Q1.out.below hb2);have B2:=AJ (ak B1.out hb2);clear hb2 p0 p1;go_wp2_with fail;go_loopg[7] 45 (fun gk u7 wr=> ∃e:Nat,u7=.int .i64 e∧gk=45-e∧e≤42∧Hid (∀e',e'<e→65536*2^e'≤V)∧ai wr (w.heap.size+1) 104 #[.int .i64 0,.int .i64 0]∧Below w.heap.size w wr);case atStart=>exact⟨0,rfl,rfl,by omega,fun e' h=>by omega,R1.out,B2.out⟩
  case round=>
   obtain⟨e,rfl,rfl,he42,hes,hR,hbel⟩:=hrel;obtain⟨T,hT⟩: ∃T:Nat,T=65536*2^e:=⟨_,rfl⟩;have hT1:T≤65536*4398046511104:=by have:2^e≤2^42:=Nat.pow_le_pow_right (by omega) he42;omega
   have hTi:(65536:Int)*2^e=(T:Int):=by rw[hT];simp
   have hTw:wrap64 (T:Int)=(T:Int):=by unfold wrap64;omega
   have he64:min e 64=e:=by omega
   have HT:=AJ hT;clear hT;have HX:=AJ (AH hR hbel);have hzr:=hR.lt;clear hR hbel;by_cases hc:T≤V
   ·have hc':(T:Int)≤V:=by omega
    go_wp2_with fail;go_quiet(fail);go_wp2_with fail;go_roundg(45-(e+1));case measure=>omega
    case rel=>have h42:=Ae HT.out hc hV1 he42;have hes':Hid (∀e',e'<e+1→65536*2^e'≤V):=xJ hes.out HT.out hc;exact⟨e+1,rfl,rfl,h42,hes',HX.out.1.drewN nq,below_drewN HX.out.2 nq⟩
   ·have hc': ¬((T:Int)≤V):=by omega
    go_wp2_with fail;go_quiet(fail);go_upto_if 42 with fail;have HW:=AJ (AH (HX.out.1.drewN nq) (below_drewN HX.out.2 nq));have hzw:w.heap.size+1<(wr.drewN nq).heap.size:=HW.out.1.lt;generalize wr.drewN nq=W at HW hzw ⊢;go_cut[7] (fun s7 wx=> ∃e2:Int,s7=.int .i64 e2∧ -16≤e2∧e2≤42∧Hid (fO a p e2)∧ai wx (w.heap.size+1) 104 #[.int .i64 0,.int .i64 0]∧Below w.heap.size w wx)
    case first=>
     by_cases he0:e=0
     ·subst he0;have hV6:V<65536:=yP HT.out hc;have HQ0:Hid (gm a p 0≤65535):=xQ HV.out hV6;clear hTi hTw he64 hc hc' hT1;go_wp2_with fail;go_loopg[7] 16 (fun gk u7 wr2=> ∃e2:Int,u7=.int .i64 e2∧gk=(e2+16).toNat∧ -16≤e2∧e2≤0∧Hid (gm a p e2≤65535)∧ai wr2 (w.heap.size+1) 104 #[.int .i64 0,.int .i64 0]∧Below w.heap.size w wr2);case atStart=>exact⟨0,rfl,rfl,by omega,by omega,HQ0,HW.out.1,HW.out.2⟩
      case round=>
       rename_i wr2;obtain⟨e2,rfl,rfl,h2lo,h2hi,hq2,hR2,hbel2⟩:=hrel;have HY:=AJ (AH hR2 hbel2);clear hR2 hbel2;by_cases hc2: -16<e2
       ·obtain⟨s,hs⟩: ∃s:Nat,1-e2=s:=⟨(1-e2).toNat,by omega⟩;have hqe:=we hp0 hs hq2.out;have hs17:s≤17:=by omega
        have hsc:=AJ (fun w=>iT a p s w hp0 (Nat.le_trans hp1 (by decide)) (Nat.le_trans hs17 (by decide)) (Nat.le_trans (Nat.le_of_lt ha1) (by decide)) (Nat.le_trans hqe.2 (by decide)));have HQE:=AJ hqe;clear hqe;go_wp2_with fail;refine(hsc.out _).mono ?_;rintro e3 w3 ⟨rfl,hb3⟩;unfold zB;have HB3:=AJ (AH (HY.out.1.below hb3) (ak HY.out.2 hb3));clear hb3;obtain⟨q,hq⟩: ∃q,q=a*2^s/p:=⟨_,rfl⟩;rw[←hq];have HQ:=AJ hq;clear hq;generalize(if 2*(a*2^s%p)<p then(-1:Int) else if p<2*(a*2^s%p) then 1 else 0)=hv;generalize(if 2*(a*2^s%p)<p then decide (0<a*2^s%p) else true)=rv;by_cases hq65:65535<q
        ·have hq65':(65535:Int)<q:=by omega
         go_wp2_with fail;go_meet;exact⟨e2,rfl,h2lo,by omega,oj hp0 hq2.out (.inr (by rw[HQE.out.1,←HQ.out];exact hq65)) h2lo,HB3.out.1,HB3.out.2⟩
        ·have hq65': ¬((65535:Int)<q):=by omega
         go_wp2_with fail;go_roundg(e2-1+16).toNat;case measure=>omega
         case rel=>exact⟨e2-1,rfl,rfl,by omega,by omega,by show _≤_;rw[HQE.out.1,←HQ.out];omega,HB3.out.1,HB3.out.2⟩
       ·have he16:Hid (e2= -16):=by show _=_;omega
        have hc2': ¬(-16<e2):=hc2;go_wp2_with fail;go_meet;exact⟨e2,rfl,h2lo,by omega,oj hp0 hq2.out (.inl he16.out) h2lo,HY.out.1,HY.out.2⟩
     ·have he1:((e:Int)==0)=false:=by simp[he0]
      have hl:Hid (fO a p e):=sZ hp0 (by rw[←HV.out];have:=HT.out;omega) (fun e' h=>by rw[←HV.out];exact hes.out e' h) (by omega);clear he0;go_wp2_with fail;go_meet;exact⟨e,rfl,by omega,by omega,hl,HW.out.1,HW.out.2⟩
    case rest=>
     rename_i wc2;obtain⟨e2,rfl,h2lo,h2hi,hle,hR2,hbel2⟩:=hcut;have HY:=AJ (AH hR2 hbel2);clear hR2 hbel2 hTi hTw he64 hc hc' hT1 hzw;go_upto_if 59 with fail;go_cut[11,12,13] (fun s11 s12 s13 wx=> ∃q:Nat,s11=.int .i64 q∧Hid (qu a p e2 q s12 s13)∧ai wx (w.heap.size+1) 104 #[.int .i64 0,.int .i64 0]∧Below w.heap.size w wx)
     case first=>
      by_cases hlz:e2≤0
      ·obtain⟨s,hs⟩: ∃s:Nat,-e2=s:=⟨(-e2).toNat,by omega⟩;have hes2:e2= -(s:Int):=by omega
       have hsw:IntKind.i64.wrap (-e2)=(s:Int):=by rw[IntKind.wrap_i64];omega
       have hqe:a*2^s/p≤65535:=by rw[←qA,←hes2];exact hle.out.1
       have hs17:s≤17:=by omega
       have hsc:=AJ (fun w=>iT a p s w hp0 (Nat.le_trans hp1 (by decide)) (Nat.le_trans hs17 (by decide)) (Nat.le_trans (Nat.le_of_lt ha1) (by decide)) (Nat.le_trans hqe (by decide)));have HES:=AJ hes2;clear hes2 hqe;go_wp2_with fail;refine(hsc.out _).mono ?_;rintro e3 w3 ⟨rfl,hb3⟩;unfold zB;have HB3:=AJ (AH (HY.out.1.below hb3) (ak HY.out.2 hb3));clear hb3;have hh:=AJ (vi (a:=a) (p:=p) (s:=s));rw[←HES.out] at hh;generalize(if 2*(a*2^s%p)<p then(-1:Int) else if p<2*(a*2^s%p) then 1 else 0)=hv at hh ⊢;generalize(if 2*(a*2^s%p)<p then decide (0<a*2^s%p) else true)=rv at hh ⊢;generalize a*2^s/p=q at hh ⊢;go_wp2_with fail;go_meet;exact⟨q,rfl,hh,HB3.out.1,HB3.out.2⟩
      ·obtain⟨j,rfl⟩: ∃j:Nat,e2=j:=⟨e2.toNat,by omega⟩;have hj1:1≤j:=by omega
       have hj64:min j 64=j:=by omega
       obtain⟨i,hi⟩: ∃i:Nat,(j:Int)-1=i:=⟨j-1,by omega⟩;have hji:j=i+1:=by omega
       have hi64:min i 64=i:=by omega
       obtain⟨m,hm,hmi⟩: ∃m:Nat,m=V/2^j∧(V:Int)/2^j=(m:Int):=⟨_,rfl,by simp⟩;obtain⟨M,hM,hMi⟩: ∃M:Nat,M=m*2^j∧(m:Int)*2^j=(M:Int):=⟨_,rfl,by simp⟩;obtain⟨L,hL⟩: ∃L:Nat,L=V%2^j:=⟨_,rfl⟩;obtain⟨Tt,hTt,hTti⟩: ∃Tt:Nat,Tt=2^i∧(2:Int)^i=(Tt:Int):=⟨_,rfl,by simp⟩;obtain⟨r0,hr0⟩: ∃r0:Nat,r0=a%p:=⟨_,rfl⟩;have hML:V=M+L:=by rw[hM,hm,hL,Nat.mul_comm];exact(Nat.div_add_mod V (2^j)).symm
       have hMw:wrap64 (M:Int)=(M:Int):=by unfold wrap64;omega
       have hLi:(V:Int)-M=(L:Int):=by omega
       have hTt0:0<Tt:=by rw[hTt];exact Nat.pow_pos (by omega)
       have hTt1:Tt≤4398046511104:=by have:2^i≤2^42:=Nat.pow_le_pow_right (by omega) (by omega);omega
       have hTtw:wrap64 (Tt:Int)=(Tt:Int):=by unfold wrap64;omega
       rw[←hr0] at htm;have hrp:r0<p:=by rw[hr0];exact Nat.mod_lt _ hp0
       have hq:gm a p (j:Int)=m:=by rw[ji,←HV.out,hm]
       have hre:wb a p (j:Int)=r0+p*L∧fu p (j:Int)=p*(2*Tt):=by obtain⟨h1,h2⟩:=xV a p j;refine⟨by rw[h1,hr0,hL,HV.out],by rw[h2,hji,Nat.pow_succ,hTt,Nat.mul_comm 2]⟩
       have hh:=wL (L:=L) (T:=Tt) hrp;have HH:Hid (∀v12 v13,((v12=.int .i64 (-1)∧(∃b,v13=.bool b)∧L<Tt)∨(v12=.int .i64 1∧v13=.bool true∧(Tt<L∨(L=Tt∧0<r0)))∨(v12=.int .i64 0∧v13=.bool true∧(L=Tt∧r0=0)))→qu a p (j:Int) m v12 v13):=fun v12 v13 h=>by rw[←hq];apply pX;rw[hre.1,hre.2];rcases h with⟨h1,h2,h3⟩|⟨h1,h2,h3⟩|⟨h1,h2,h3⟩;(·exact .inl ⟨h1,h2,hh.2.2 h3⟩);(·exact .inr (.inl ⟨h1,h2,hh.1 h3⟩));·exact .inr (.inr ⟨h1,h2,hh.2.1 h3⟩)
       have hLV:L≤V:=by rw[hML];exact Nat.le_add_left _ _
       have hwl:=wl hLV hV1;have hi42:i≤42:=by clear hmi hMi hTti hLi hMw hTtw hML;omega
       have HF:=AJ (AH hmi (AH hMi (AH hTti (AH hLi (AH hMw (AH hTtw hwl))))));clear hh hq hre hrp hr0 hTt hL hM hm hji hTt1 hmi hMi hTti hLi hMw hTtw hwl hML;go_upto_region 24 with fail;simp only[HF.out.1];go_upto_region 25 with fail;simp only[HF.out.2.1,HF.out.2.2.2.2.1,HF.out.2.2.2.1,HF.out.2.2.2.2.2.2];go_upto_region 26 with fail;simp only[HF.out.2.2.1,HF.out.2.2.2.2.2.1];rcases Nat.lt_trichotomy Tt L with hc1|hc1|hc1
       ·have g1:(Tt:Int)<L:=by omega
        have g2:(0:Int)<L:=by omega
        go_wp2_with fail;go_meet;exact⟨m,rfl,HH.out _ _ (.inr (.inl ⟨rfl,rfl,.inl hc1⟩)),HY.out.1,HY.out.2⟩
       ·subst hc1;have g1: ¬((Tt:Int)<Tt):=by omega
        have g2:(0:Int)<Tt:=by omega
        rcases Nat.eq_zero_or_pos r0 with hr1|hr1
        ·have g3: ¬((0:Int)<r0):=by omega
         have HR1:=AJ hr1;clear hr1;go_wp2_with fail;go_meet;exact⟨m,rfl,HH.out _ _ (.inr (.inr ⟨rfl,rfl,by simp[HR1.out]⟩)),HY.out.1,HY.out.2⟩
        ·have g3:(0:Int)<r0:=by omega
         go_wp2_with fail;go_meet;exact⟨m,rfl,HH.out _ _ (.inr (.inl ⟨rfl,rfl,by simp[hr1]⟩)),HY.out.1,HY.out.2⟩
       ·have g1: ¬((Tt:Int)<L):=by omega
        have g2:((L:Int)==Tt)=false:=by simp;omega
        by_cases hl0:0<L
        ·have g3:(0:Int)<L:=by omega
         go_wp2_with fail;go_meet;exact⟨m,rfl,HH.out _ _ (.inl ⟨rfl,⟨_,rfl⟩,hc1⟩),HY.out.1,HY.out.2⟩
        ·have g3: ¬((0:Int)<L):=by omega
         go_wp2_with fail;go_meet;exact⟨m,rfl,HH.out _ _ (.inl ⟨rfl,⟨_,rfl⟩,hc1⟩),HY.out.1,HY.out.2⟩
     case rest=>
      rename_i wc3;obtain⟨q,rfl,hhalf,hR3,hbel3⟩:=hcut;have HZ:=AJ (AH hR3 hbel3);clear hR3 hbel3;go_upto_region 31 with fail;go_cut[123] (fun s123 wx=> ∃b:Bool,s123=.bool b∧Hid (dT a p e2=if b then q+1 else q)∧ai wx (w.heap.size+1) 104 #[.int .i64 0,.int .i64 0]∧Below w.heap.size w wx)
      case first=>
       rcases hhalf.out.2 with⟨rfl,⟨b,rfl⟩,hrd⟩|⟨rfl,rfl,hrd⟩|⟨rfl,rfl,hrd⟩
       ·have HRD:=AJ hrd;clear hrd;cases b;·go_wp2_with fail;go_meet;exact⟨false,rfl,HRD.out,HZ.out.1,HZ.out.2⟩
        ·go_wp2_with fail;go_meet;exact⟨false,rfl,HRD.out,HZ.out.1,HZ.out.2⟩
       ·have HRD:=AJ hrd;clear hrd;go_wp2_with fail;go_meet;exact⟨true,rfl,HRD.out,HZ.out.1,HZ.out.2⟩
       ·by_cases hpar:q%2=1
        ·have hp2:(((q:Int)%2)==1)=true:=by simp;omega
         rw[if_pos hpar] at hrd;have HRD:=AJ hrd;clear hrd hpar;go_wp2_with fail;go_meet;exact⟨true,by first|rfl|simpa using hp2,HRD.out,HZ.out.1,HZ.out.2⟩
        ·have hp2:(((q:Int)%2)==1)=false:=by simp;omega
         rw[if_neg hpar] at hrd;have HRD:=AJ hrd;clear hrd hpar;go_wp2_with fail;go_meet;exact⟨false,by first|rfl|simpa using hp2,HRD.out,HZ.out.1,HZ.out.2⟩
      case rest=>
       obtain⟨b,rfl,hrd,hR4,hbel4⟩:=hcut;have HZ4:=AJ (AH hR4 hbel4);clear hR4 hbel4;obtain⟨rm,hrm⟩: ∃rm,rm=dT a p e2:=⟨_,rfl⟩;have hqb:q≤65535:=by rw[hhalf.out.1];exact hle.out.1
       have HRM:=AJ (AH hrm (zw (r:=r) (n:=n) hp0 hle.out h2lo hrm.symm (by rw[hrm];exact HI.out.2.2.2.1 e2 hle.out h2lo (Int.le_trans h2hi (by decide)))));have HRR:=AJ (show r=bz (lT n rm) e2 by rw[hrm];exact HI.out.2.2.2.1 e2 hle.out h2lo (Int.le_trans h2hi (by decide)));rw[←hrm] at hrd;have HB:=AJ hrd.out;clear hrm hrd hhalf;go_upto_if 123 with fail;go_cut[11] (fun s11 wx=>s11=.int .i64 (rm:Int)∧ai wx (w.heap.size+1) 104 #[.int .i64 0,.int .i64 0]∧Below w.heap.size w wx)
       case first=>
        cases b
        ·have hrq:rm=q:=by have:=HB.out;simpa using this
         subst hrq;go_wp2_with fail;go_meet;exact⟨rfl,HZ4.out.1,HZ4.out.2⟩
        ·have hrq:rm=q+1:=by have:=HB.out;simpa using this
         subst hrq;go_wp2_with fail;go_meet;exact⟨by go_num,HZ4.out.1,HZ4.out.2⟩
       case rest=>
        obtain⟨rfl,hR5,hbel5⟩:=hcut;have hz5:=hR5.lt;have HZ5:=AJ (AH hR5 hbel5);clear hR5 hbel5 htd htm hnx hk;have hrb:=HRM.out.2.1;rcases hsg with rfl|rfl
        ·by_cases h6:rm=65536
         ·by_cases h30:30<e2+1;·have hn:=HRM.out.2.2.2.1 h6 h30;subst h6;subst hn;have f0:=HZ5.out.1.frozen 0;have f1:=HZ5.out.1.frozen 1;obtain⟨y0,y1⟩:=HZ5.out.1.c2;go_wp2_with fail;refine bodyPost_ret (v:=bo none) (by simp[results,bo,Tryz.results317,go_sem, *]<;>rfl) rfl ?_;exact⟨rfl,dr HZ5.out.2 (by omega) _ _⟩
          ·have hr2:=AJ (HRM.out.2.2.1 h6);subst h6;have hX:bz 32768 (e2+1)=r:=by rw[hr2.out,←hsgn.out 32768]<;>(congr 1<;>omega)
           have HX9:=AJ hX;clear hX;go_wp2_with fail;refine(eH 32768 (e2+1) _ (by omega) (by omega) (by omega)).mono ?_;rintro e9 w9 ⟨rfl,hb9⟩;rw[HX9.out];have HZ9:=AJ (AH (HZ5.out.1.below hb9) (ak HZ5.out.2 hb9));clear hb9;have hz9:=HZ9.out.1.lt;have f0:=HZ9.out.1.frozen 0;have f1:=HZ9.out.1.frozen 1;obtain⟨y0,y1⟩:=HZ9.out.1.c2;have n1:w9.heap.size≠w.heap.size+1:=by omega
           have n2:w.heap.size+1≠w9.heap.size:=by omega
           rcases r with _|⟨m',e'⟩;·unfold bo;go_wp2_with fail;refine bodyPost_ret (v:=bo none) (by simp[results,bo,Tryz.results317,go_sem, *]<;>rfl) rfl ?_;exact⟨rfl,by first|exact ab (dr HZ9.out.2 (by omega) _ _) _|exact dr (ab HZ9.out.2 _) (by omega) _ _⟩
           ·unfold bo;go_wp2_with fail;refine bodyPost_ret (v:=bo (some (m',e'))) (by simp[results,bo,Tryz.results317,go_sem, *]<;>rfl) rfl ?_;exact⟨rfl,by first|exact ab (dr HZ9.out.2 (by omega) _ _) _|exact dr (ab HZ9.out.2 _) (by omega) _ _⟩
         ·have h6':((rm:Int)==65536)=false:=by simp;omega
          by_cases h30:30<e2;·have hn:=HRM.out.2.2.2.2 h6 h30;subst hn;clear h6;have f0:=HZ5.out.1.frozen 0;have f1:=HZ5.out.1.frozen 1;obtain⟨y0,y1⟩:=HZ5.out.1.c2;go_wp2_with fail;refine bodyPost_ret (v:=bo none) (by simp[results,bo,Tryz.results317,go_sem, *]<;>rfl) rfl ?_;exact⟨rfl,dr HZ5.out.2 (by omega) _ _⟩
          ·clear h6;have hX:bz (rm:Int) e2=r:=by rw[HRR.out,←hsgn.out rm]<;>(congr 1<;>omega)
           have HX9:=AJ hX;clear hX;go_wp2_with fail;refine(eH (rm:Int) e2 _ (by omega) (by omega) (by omega)).mono ?_;rintro e9 w9 ⟨rfl,hb9⟩;rw[HX9.out];have HZ9:=AJ (AH (HZ5.out.1.below hb9) (ak HZ5.out.2 hb9));clear hb9;have hz9:=HZ9.out.1.lt;have f0:=HZ9.out.1.frozen 0;have f1:=HZ9.out.1.frozen 1;obtain⟨y0,y1⟩:=HZ9.out.1.c2;have n1:w9.heap.size≠w.heap.size+1:=by omega
           have n2:w.heap.size+1≠w9.heap.size:=by omega
           rcases r with _|⟨m',e'⟩;·unfold bo;go_wp2_with fail;refine bodyPost_ret (v:=bo none) (by simp[results,bo,Tryz.results317,go_sem, *]<;>rfl) rfl ?_;exact⟨rfl,by first|exact ab (dr HZ9.out.2 (by omega) _ _) _|exact dr (ab HZ9.out.2 _) (by omega) _ _⟩
           ·unfold bo;go_wp2_with fail;refine bodyPost_ret (v:=bo (some (m',e'))) (by simp[results,bo,Tryz.results317,go_sem, *]<;>rfl) rfl ?_;exact⟨rfl,by first|exact ab (dr HZ9.out.2 (by omega) _ _) _|exact dr (ab HZ9.out.2 _) (by omega) _ _⟩
        ·by_cases h6:rm=65536
         ·by_cases h30:30<e2+1;·have hn:=HRM.out.2.2.2.1 h6 h30;subst h6;subst hn;have f0:=HZ5.out.1.frozen 0;have f1:=HZ5.out.1.frozen 1;obtain⟨y0,y1⟩:=HZ5.out.1.c2;go_wp2_with fail;refine bodyPost_ret (v:=bo none) (by simp[results,bo,Tryz.results317,go_sem, *]<;>rfl) rfl ?_;exact⟨rfl,dr HZ5.out.2 (by omega) _ _⟩
          ·have hr2:=AJ (HRM.out.2.2.1 h6);subst h6;have hX:bz (-32768) (e2+1)=r:=by rw[hr2.out,←hsgn.out 32768]<;>(congr 1<;>omega)
           have HX9:=AJ hX;clear hX;go_wp2_with fail;refine(eH (-32768) (e2+1) _ (by omega) (by omega) (by omega)).mono ?_;rintro e9 w9 ⟨rfl,hb9⟩;rw[HX9.out];have HZ9:=AJ (AH (HZ5.out.1.below hb9) (ak HZ5.out.2 hb9));clear hb9;have hz9:=HZ9.out.1.lt;have f0:=HZ9.out.1.frozen 0;have f1:=HZ9.out.1.frozen 1;obtain⟨y0,y1⟩:=HZ9.out.1.c2;have n1:w9.heap.size≠w.heap.size+1:=by omega
           have n2:w.heap.size+1≠w9.heap.size:=by omega
           rcases r with _|⟨m',e'⟩;·unfold bo;go_wp2_with fail;refine bodyPost_ret (v:=bo none) (by simp[results,bo,Tryz.results317,go_sem, *]<;>rfl) rfl ?_;exact⟨rfl,by first|exact ab (dr HZ9.out.2 (by omega) _ _) _|exact dr (ab HZ9.out.2 _) (by omega) _ _⟩
           ·unfold bo;go_wp2_with fail;refine bodyPost_ret (v:=bo (some (m',e'))) (by simp[results,bo,Tryz.results317,go_sem, *]<;>rfl) rfl ?_;exact⟨rfl,by first|exact ab (dr HZ9.out.2 (by omega) _ _) _|exact dr (ab HZ9.out.2 _) (by omega) _ _⟩
         ·have h6':((rm:Int)==65536)=false:=by simp;omega
          by_cases h30:30<e2;·have hn:=HRM.out.2.2.2.2 h6 h30;subst hn;clear h6;have f0:=HZ5.out.1.frozen 0;have f1:=HZ5.out.1.frozen 1;obtain⟨y0,y1⟩:=HZ5.out.1.c2;go_wp2_with fail;refine bodyPost_ret (v:=bo none) (by simp[results,bo,Tryz.results317,go_sem, *]<;>rfl) rfl ?_;exact⟨rfl,dr HZ5.out.2 (by omega) _ _⟩
          ·clear h6;have hX:bz (-(rm:Int)) e2=r:=by rw[HRR.out,←hsgn.out rm]<;>(congr 1<;>omega)
           have HX9:=AJ hX;clear hX;go_wp2_with fail;refine(eH (-(rm:Int)) e2 _ (by omega) (by omega) (by omega)).mono ?_;rintro e9 w9 ⟨rfl,hb9⟩;rw[HX9.out];have HZ9:=AJ (AH (HZ5.out.1.below hb9) (ak HZ5.out.2 hb9));clear hb9;have hz9:=HZ9.out.1.lt;have f0:=HZ9.out.1.frozen 0;have f1:=HZ9.out.1.frozen 1;obtain⟨y0,y1⟩:=HZ9.out.1.c2;have n1:w9.heap.size≠w.heap.size+1:=by omega
           have n2:w.heap.size+1≠w9.heap.size:=by omega
           rcases r with _|⟨m',e'⟩;·unfold bo;go_wp2_with fail;refine bodyPost_ret (v:=bo none) (by simp[results,bo,Tryz.results317,go_sem, *]<;>rfl) rfl ?_;exact⟨rfl,by first|exact ab (dr HZ9.out.2 (by omega) _ _) _|exact dr (ab HZ9.out.2 _) (by omega) _ _⟩
           ·unfold bo;go_wp2_with fail;refine bodyPost_ret (v:=bo (some (m',e'))) (by simp[results,bo,Tryz.results317,go_sem, *]<;>rfl) rfl ?_;exact⟨rfl,by first|exact ab (dr HZ9.out.2 (by omega) _ _) _|exact dr (ab HZ9.out.2 _) (by omega) _ _⟩
theorem jH(n x:Int)(w:World)(hok:aV n x=true):Calls Tryz.prog 318 #[.agg #[.int .i64 n,.int .i64 x]] w (bW w (.bool (eR n x))):=by
 obtain⟨hb0,hb1,hb2,hb3⟩:=qI hok;have B0:=AJ (ab (ae w) (.cells #[.int .i64 n,.int .i64 x] 108));have P0:=AJ (ai.new w 108 #[.int .i64 n,.int .i64 x]);have HK:=AJ hok;clear hok;obtain⟨q,hq⟩: ∃q,q=eR n x:=⟨_,rfl⟩;rw[←hq];rcases hr:eL n x with _|⟨m,e⟩;·rw[mo hr] at hq;subst hq;have HR:=AJ hr;clear hr;go_enter Tryz.func318,Tryz.ntmps318;go_wp2_with fail;refine(du n x _ HK.out hb0 hb1 hb2 hb3).mono ?_;rintro e w1 ⟨rfl,hb⟩;rw[HR.out];unfold bo;have HB:=AJ (ak B0.out hb);clear hb;have hle:=HB.out.size;go_wp2_with fail;go_quiet(fail);go_wp2_with fail;go_ret;exact⟨rfl,by first|exact below_drewN (ab HB.out _) _|exact ab HB.out _⟩
 ·have hf:=oe hr;rw[gh hr] at hq;have HQ:=AJ (show Hid (q=decide (((aI m e).1,(aI m e).2)=(n,x))) from hq);clear hq;have HR:=AJ hr;clear hr;have HF:=AJ hf;clear hf;obtain⟨a,ha⟩: ∃a,a=(aI m e).1:=⟨_,rfl⟩;obtain⟨b,hb⟩: ∃b,b=(aI m e).2:=⟨_,rfl⟩;have hfd:ow m e=.agg #[.int .i64 a,.int .i64 b]:=by unfold ow;rw[ha,hb]
  have heq:=uA a b n x;have HQ2:Hid (decide ((a,b)=(n,x))=q):=by show _=_;rw[HQ.out.out,ha,hb]
  rw[HQ2.out] at heq;have HD:=AJ hfd;clear hfd ha hb HQ;cases q
  all_goals
   go_enter Tryz.func318,Tryz.ntmps318;go_wp2_with fail;refine(du n x _ HK.out hb0 hb1 hb2 hb3).mono ?_;rintro e1 w1 ⟨rfl,hb⟩;rw[HR.out];unfold bo;have P1:=AJ (P0.out.below hb);have HB:=AJ (ak B0.out hb);clear hb;have hle:=HB.out.size;have hz1:=P1.out.lt;obtain⟨p0,p1⟩:=P1.out.c2;have n1:w.heap.size≠w1.heap.size:=by omega
   have n1':w1.heap.size≠w.heap.size:=by omega
   go_wp2_with fail;go_region_held3(fun u=>u.cell? ⟨w.heap.size,0,none⟩=some (.int .i64 n)∧u.cell? ⟨w.heap.size,1,none⟩=some (.int .i64 x)∧u.cell? ⟨w1.heap.size,0,none⟩=some (.int .i64 m)∧u.cell? ⟨w1.heap.size,1,none⟩=some (.int .i64 e)) (go_keep) (first|(go_at_call 179;(refine(fQ m e _ HF.out).mono ?_;rintro e2 w2 ⟨rfl,hb⟩;rw[HD.out];have P2:=AJ (show ai w2 w.heap.size 108 #[.int .i64 n,.int .i64 x] from(by first|exact(P1.out.alloc _).below hb|exact(P1.out.alloc _).drew.below hb));obtain⟨r0,r1⟩:=P2.out.c2;have hz2:=P2.out.lt;have Q2:=AJ (show ai w2 w1.heap.size 104 #[.int .i64 m,.int .i64 e] from(by first|exact(ai.new w1 _ _).below hb|exact(ai.new w1 _ _).drew.below hb));obtain⟨t0,t1⟩:=Q2.out.c2;have hz3:=Q2.out.lt;have HB2:=AJ (show Below w.heap.size w w2 from(by first|exact ak (ab HB.out _) hb|exact ak ((ab HB.out _).drew) hb));clear hb)));·go_wp2_with fail;go_ret;exact⟨rfl,HB2.out⟩
theorem iU(m e:Int)(w:World):Calls Tryz.prog 118 #[.agg #[.int .i64 m,.int .i64 e]] w (bW w (aW 4 m e {data:=#[]})):=by
 have B0:=AJ (ab (ae w) (.cells #[.int .i64 m,.int .i64 e] 104));go_enter Tryz.func118,Tryz.ntmps118;go_wp2_with fail;refine bodyPost_ret (v:=aW 4 m e {data:=#[]}) (by simp[results,aW,Tryz.results118,go_sem, *]) rfl ?_;exact⟨rfl,ab B0.out _⟩
theorem oa(n:Int)(w:World):Calls Tryz.prog 116 #[.int .i64 n] w (bW w (aW 3 n 0 {data:=#[]})):=by
 have B0:=AJ (ae w);go_enter Tryz.func116,Tryz.ntmps116;go_wp2_with fail;refine bodyPost_ret (v:=aW 3 n 0 {data:=#[]}) (by simp[results,aW,Tryz.results116,go_sem, *]) rfl ?_;exact⟨rfl,ab B0.out _⟩
theorem iA(s:ByteArray)(w:World):Calls Tryz.prog 122 #[.string s] w (bW w (aW 7 0 0 s)):=by
 have B0:=AJ (ae w);go_enter Tryz.func122,Tryz.ntmps122;go_wp2_with fail;refine bodyPost_ret (v:=aW 7 0 0 s) (by simp[results,aW,Tryz.results122,go_sem, *]) rfl ?_;exact⟨rfl,ab B0.out _⟩
theorem kR(n x:Int)(w:World):Calls Tryz.prog 120 #[.agg #[.int .i64 n,.int .i64 x]] w (bW w (aW (b9 n x).kind (b9 n x).n (b9 n x).x {data:=#[]})):=by
 have BD:=AJ (ab (ae w) (.cells #[.int .i64 n,.int .i64 x] 108));have B0:=AJ (ab (ab (ae w) (.cells #[.int .i64 n,.int .i64 x] 108)) (.cells #[.int .i64 0,.int .i64 0,.int .i64 0,.string .empty,.slice none 0 0] 27));unfold b9;by_cases hx:x=0;·subst hx;simp only[if_true];go_enter Tryz.func120,Tryz.ntmps120;go_wp2_with fail;refine(oa n _).mono ?_;rintro e1 w1 ⟨rfl,hb⟩;have P1:=AJ ((ai.at (w:=w.alloc (.cells #[.int .i64 n,.int .i64 0] 108)) (g:=w.heap.size+1) (t:=27) (cs:=#[.int .i64 0,.int .i64 0,.int .i64 0,.string .empty,.slice none 0 0]) (by simp)).below hb);have HB:=AJ (ak B0.out hb);clear hb;have hz:=P1.out.lt;obtain⟨f0,f1,f2,f3,f4⟩:=P1.out.f5;obtain⟨p0,p1,p2,p3,p4⟩:=P1.out.c5;unfold aW;go_wp2_with fail;refine bodyPost_ret (v:=aW 3 n 0 {data:=#[]}) (by simp[results,aW,Tryz.results120,go_sem, *]) rfl ?_;exact⟨rfl,cE HB.out (by simp;try omega) _ _ _ _ _⟩
 ·simp only[if_neg hx];go_enter Tryz.func120,Tryz.ntmps120;go_wp2_with fail;refine bodyPost_ret (v:=aW 6 n x {data:=#[]}) (by simp[results,aW,Tryz.results120,go_sem, *]) rfl ?_;exact⟨rfl,ab BD.out _⟩
theorem dL:(Tryz.prog.info? 5).map (fun i=>(i.zero,i.size,i.bytes))=some (some (.int .u8 0),1,1):=by
 kernel_rfl
theorem fF: ∀(w:World)(F:List Nat)(a:UInt8)(cs:List Value),aD.rp w F a cs→F=[]:=fun _ _ _ _ h=>h.1
theorem uf: ∀b:Fin 256,bits BinOp.and IntKind.u8 (b.val:Int) 15=(b.val:Int)%16:=by
 decide+kernel
theorem xw(b:UInt8):bits BinOp.and IntKind.u8 (b.toNat:Int) 15=(b.toNat:Int)%16:=uf ⟨b.toNat,b.toNat_lt⟩
theorem pY(l:List UInt8)(b:UInt8):oo (l++[b])=oo l++[mQ (b.toNat/16),mQ (b.toNat%16)]:=by
 simp[oo]
def qK:ByteArray:={data:=#[48,49,50,51,52,53,54,55,56,57,97,98,99,100,101,102]}
theorem sS: ∀i:Fin 16,qK.data.toList[i.val]? =some (mQ i.val):=by
 decide+kernel
theorem jm(n:Nat)(h:n<qK.size)(x:Nat)(hn:n=x):qK[n]'h=mQ x:=by
 subst hn;have h':n<16:=h;have h1:=sS ⟨n,h'⟩;have hl:n<qK.data.toList.length:=by simpa using h
 rw[List.getElem?_eq_getElem hl] at h1;exact Option.some.inj h1
theorem SA.zL(w:World)(t:TypeId)(a b:UInt8):SA (w.alloc (.cells #[.int .u8 (a.toNat:Int),.int .u8 (b.toNat:Int)] t)) [a,b] (some ⟨w.heap.size,0,none⟩) 2:=by
 refine⟨[w.heap.size],⟨by simp,by unfold maxLen;omega,.inr ⟨w.heap.size,0,[],[.int .u8 (a.toNat:Int),.int .u8 (b.toNat:Int)],rfl,rfl,⟨[],[],[_],[_],rfl,rfl,⟨rfl,rfl⟩,⟨[],[],[_],[],rfl,rfl,⟨rfl,rfl⟩,rfl,rfl⟩⟩,?_⟩⟩,by simp⟩;intro j v hj;have hc:=aJ (w:=w) (t:=t) (g:=w.heap.size) [.int .u8 (a.toNat:Int),.int .u8 (b.toNat:Int)] rfl j v hj;have e1:(⟨w.heap.size,0,none⟩:Addr).add j=⟨w.heap.size,0+j,none⟩:=by unfold Addr.add;split;(·rename_i h;subst h;rfl);·simp
 rw[e1] at hc;exact hc
theorem mM(s:ByteArray)(w:World)(hs:s.size≤1048576):Calls Tryz.prog 274 #[.string s] w (bW w (.string (mJ s))):=by
 have hl:s.data.toList.length=s.size:=by rw[Array.length_toList];rfl
 go_enter Tryz.func274,Tryz.ntmps274;go_wp2_with fail;go_loopg[3,4] s.size (fun gk rv i wr=> ∃(k:Nat),k≤s.size∧i=.int .i64 k∧gk=s.size-k∧ay wr w.heap.size 5 rv (oo (s.data.toList.take k))∧Below w.heap.size w wr);case atStart=>exact⟨0,by omega,rfl,by omega,ay.dF _ _ _ _ (by simp) (by omega),ab (ae w) _⟩
 case round=>
  obtain⟨k,hk,rfl,rfl,hown,hbel⟩:=hrel;by_cases hlt:k<s.size
  ·have hi1:(k:Int)<s.size:=by omega
   have hi3:(0:Int)≤k:=by omega
   have HO:=AJ (AH hown hbel);clear hown hbel;have hb:=(s[k]).toNat_lt;have hd1:(0≤((s[k]).toNat:Int)/16)∧((s[k]).toNat:Int)/16<16:=by omega
   have hd2:(0≤((s[k]).toNat:Int)%16)∧((s[k]).toNat:Int)%16<16:=by omega
   have hbt:=xw s[k];have hx1: ∀h:((((s[k]'hlt).toNat:Int)/16).toNat<ByteArray.size ({data:=#[48,49,50,51,52,53,54,55,56,57,97,98,99,100,101,102]}:ByteArray)),({data:=#[48,49,50,51,52,53,54,55,56,57,97,98,99,100,101,102]}:ByteArray)[(((s[k]'hlt).toNat:Int)/16).toNat]'h=mQ ((s[k]'hlt).toNat/16):=fun h=>jm _ h _ (by omega);have hx2: ∀h:((((s[k]'hlt).toNat:Int)%16).toNat<ByteArray.size ({data:=#[48,49,50,51,52,53,54,55,56,57,97,98,99,100,101,102]}:ByteArray)),({data:=#[48,49,50,51,52,53,54,55,56,57,97,98,99,100,101,102]}:ByteArray)[(((s[k]'hlt).toNat:Int)%16).toNat]'h=mQ ((s[k]'hlt).toNat%16):=fun h=>jm _ h _ (by omega);go_wp2_with fail;go_region_held3(fun u=>True) (trivial) (first|((apply aX (s:=.tmp 12) (x:=.tmp 23) (t:=22) (v:=u3) (u:=.slice (some ⟨wr.heap.size,0,none⟩) 2 2);(try case hgd=>exact rfl);(try case ho=>exact rfl);(try case hs=>exact rfl);(try case hx=>exact rfl);(case hrun=>exact aS (P:=Tryz.prog) fF 22 22 w.heap.size 5 (.int .u8 0) 1 Tryz.underlying22 dL rfl (by decide) u3 (oo (s.data.toList.take k)) [_,_] _ _ (HO.out.1.below (ab (ae wr).drew _)) (SA.zL wr.drew _ _ _) (by rw[gK,List.length_take];simp;omega) (by rw[gK,List.length_take];unfold maxLen;simp;omega) (by have:=HO.out.2.size;simp;omega));rintro v1 w1 ⟨ho,hbl,_,hg⟩;have HO1:=AJ (AH ho (show Below w.heap.size w w1 from(HO.out.2.trans ((ab (ae wr).drew _).mono HO.out.2.size)).trans hbl));clear ho hbl hg)))
   all_goals
    go_wp2_with fail;go_roundg(s.size-(k+1));case measure=>omega
    case rel=>
     refine⟨k+1,by omega,by go_num,rfl,?_,HO1.out.2⟩;have hlt':k<s.data.toList.length:=by omega
     rw[List.take_succ_eq_append_getElem hlt',pY];exact HO1.out.1
  ·have e:k=s.size:=by omega
   rw[e,←hl,List.take_length] at hown;obtain⟨Av,cv,rfl⟩:=hown.form;have hcv:=bc (P:=Tryz.prog) (src:=22) (dst:=9) Tryz.underlying22 Tryz.underlying5 Tryz.underlying9 hown.sf.2.sa;have HB:=AJ hbel;clear hbel hown;go_wp2_with fail;go_ret;exact⟨rfl,HB.out⟩
theorem qv(k n x:Int)(s:ByteArray)(A:Option Addr)(m c:Nat)(w:World)(hok:aV n x=true):Calls Tryz.prog 273 #[.agg #[.int .i64 k,.int .i64 n,.int .i64 x,.string s,.slice A m c]] w (bW w (.tuple #[aW (aB n x).1.kind (aB n x).1.n (aB n x).1.x {data:=#[]},.int .i64 (aB n x).2])):=by
 obtain⟨hb0,hb1,hb2,hb3⟩:=qI hok;have HK:=AJ hok;clear hok;have B0:=AJ (ab (ab (ab (ae w) (.cells #[.int .i64 k,.int .i64 n,.int .i64 x,.string s,.slice A m c] 27)) (.cells #[.int .i64 0,.int .i64 0,.int .i64 0,.string .empty,.slice none 0 0] 27)) (.cells #[.int .i64 n,.int .i64 x] 108));have Z0:=AJ ((ai.at (w:=w.alloc (.cells #[.int .i64 k,.int .i64 n,.int .i64 x,.string s,.slice A m c] 27)) (g:=w.heap.size+1) (t:=27) (cs:=#[.int .i64 0,.int .i64 0,.int .i64 0,.string .empty,.slice none 0 0]) (by simp)).alloc (.cells #[.int .i64 n,.int .i64 x] 108));have D0:=AJ (ai.at (w:=(w.alloc (.cells #[.int .i64 k,.int .i64 n,.int .i64 x,.string s,.slice A m c] 27)).alloc (.cells #[.int .i64 0,.int .i64 0,.int .i64 0,.string .empty,.slice none 0 0] 27)) (g:=w.heap.size+1+1) (t:=108) (cs:=#[.int .i64 n,.int .i64 x]) (by simp));unfold aB;rcases hr:eL n x with _|⟨m1,e1⟩;·have HR:=AJ hr;clear hr;unfold iR;simp only;go_enter Tryz.func273,Tryz.ntmps273;go_wp2_with fail;refine(du n x _ HK.out hb0 hb1 hb2 hb3).mono ?_;rintro e w1 ⟨rfl,hb⟩;rw[HR.out];unfold bo;have Z1:=AJ (Z0.out.below hb);have HB:=AJ (ak B0.out hb);clear hb;obtain⟨f0,f1,f2,f3,f4⟩:=Z1.out.f5;obtain⟨p0,p1,p2,p3,p4⟩:=Z1.out.c5;have hzz:=Z1.out.lt;go_wp2_with fail;refine bodyPost_ret (v:=.tuple #[aW 1 0 0 {data:=#[]},.int .i64 3]) (by simp[results,aW,Tryz.results273,go_sem, *]) rfl ?_;exact⟨rfl,by first|exact ab (cE HB.out (by omega) _ _ _ _ _) _|exact cE (ab HB.out _) (by simp;try omega) _ _ _ _ _⟩
 ·have HX:=AJ (show Hid (eR n x=decide (aI m1 e1=(n,x))) from gh hr);have HR:=AJ hr;clear hr;simp only;by_cases hq:aI m1 e1=(n,x)
  ·have hX2:eR n x=true:=by rw[HX.out.out];simpa using hq
   have HX2:=AJ hX2;clear hX2;rw[if_pos hq];clear hq HX;go_enter Tryz.func273,Tryz.ntmps273;go_wp2_with fail;refine(du n x _ HK.out hb0 hb1 hb2 hb3).mono ?_;rintro e w1 ⟨rfl,hb⟩;rw[HR.out];unfold bo;have Z1:=AJ (Z0.out.below hb);have D1:=AJ (D0.out.below hb);have HB:=AJ (ak B0.out hb);clear hb;obtain⟨d0,d1⟩:=D1.out.c2;have hd:=D1.out.lt;go_wp2_with fail;refine(jH n x _ HK.out).mono ?_;rintro e w2 ⟨rfl,hb⟩;rw[HX2.out];have Z2:=AJ ((Z1.out.alloc (.cells #[.int .i64 m1,.int .i64 e1] 104)).below hb);have F2:=AJ ((ai.new w1 104 #[.int .i64 m1,.int .i64 e1]).below hb);have HB2:=AJ (ak (ab HB.out _) hb);clear hb;obtain⟨g0,g1⟩:=F2.out.c2;have hg:=F2.out.lt;go_wp2_with fail;refine(iU m1 e1 _).mono ?_;rintro e w3 ⟨rfl,hb⟩;unfold aW;have Z3:=AJ (Z2.out.below hb);have HB3:=AJ (ak HB2.out hb);clear hb d0 d1 g0 g1;obtain⟨f0,f1,f2,f3,f4⟩:=Z3.out.f5;obtain⟨p0,p1,p2,p3,p4⟩:=Z3.out.c5;have hzz:=Z3.out.lt;go_wp2_with fail;refine bodyPost_ret (v:=.tuple #[aW 4 m1 e1 {data:=#[]},.int .i64 1]) (by simp[results,aW,Tryz.results273,go_sem, *]) rfl ?_;exact⟨rfl,cE HB3.out (by simp;try omega) _ _ _ _ _⟩
  ·have hX2:eR n x=false:=by rw[HX.out.out];simpa using hq
   have HX2:=AJ hX2;clear hX2;rw[if_neg hq];clear hq HX;go_enter Tryz.func273,Tryz.ntmps273;go_wp2_with fail;refine(du n x _ HK.out hb0 hb1 hb2 hb3).mono ?_;rintro e w1 ⟨rfl,hb⟩;rw[HR.out];unfold bo;have Z1:=AJ (Z0.out.below hb);have D1:=AJ (D0.out.below hb);have HB:=AJ (ak B0.out hb);clear hb;obtain⟨d0,d1⟩:=D1.out.c2;have hd:=D1.out.lt;go_wp2_with fail;refine(jH n x _ HK.out).mono ?_;rintro e w2 ⟨rfl,hb⟩;rw[HX2.out];have Z2:=AJ ((Z1.out.alloc (.cells #[.int .i64 m1,.int .i64 e1] 104)).below hb);have F2:=AJ ((ai.new w1 104 #[.int .i64 m1,.int .i64 e1]).below hb);have HB2:=AJ (ak (ab HB.out _) hb);clear hb;obtain⟨g0,g1⟩:=F2.out.c2;have hg:=F2.out.lt;go_wp2_with fail;refine(iU m1 e1 _).mono ?_;rintro e w3 ⟨rfl,hb⟩;unfold aW;have Z3:=AJ (Z2.out.below hb);have HB3:=AJ (ak HB2.out hb);clear hb d0 d1 g0 g1;obtain⟨f0,f1,f2,f3,f4⟩:=Z3.out.f5;obtain⟨p0,p1,p2,p3,p4⟩:=Z3.out.c5;have hzz:=Z3.out.lt;go_wp2_with fail;refine bodyPost_ret (v:=.tuple #[aW 4 m1 e1 {data:=#[]},.int .i64 2]) (by simp[results,aW,Tryz.results273,go_sem, *]) rfl ?_;exact⟨rfl,cE HB3.out (by simp;try omega) _ _ _ _ _⟩
end Go.Proofs.YtodpdjehjllhdaaGreatDoor
