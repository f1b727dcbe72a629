/- Part of a proof: contracts and plain laws. -/
import Derived.Test.YtodpdjehjllhdaaGreatDoorK06
import Derived.BigQuiet
import Derived.Deep.QuietTactic
set_option linter.unusedVariables false
set_option linter.unusedSimpArgs false
set_option maxRecDepth 100000
set_option maxHeartbeats 20000000
namespace Go.Proofs.YtodpdjehjllhdaaGreatDoor
open Go.RowKit
def br:Option (Int×Int)→Value|some (m,e)=>.tuple #[.agg #[.int .i64 m,.int .i64 e],.bool true]|none=>.tuple #[.agg #[.int .i64 0,.int .i64 0],.bool false]
theorem eH(m e:Int)(w:World)(hm:m.natAbs≤65536)(he0: -20≤e)(he1:e≤60):Calls Tryz.prog 349 #[.int .i64 m,.int .i64 e] w (bN w (br (bB m e))):=by
 have P0:=Ad (aj.new w 104 #[.int .i64 0,.int .i64 0]);have B0:=Ad (ab (ae w) (.cells #[.int .i64 0,.int .i64 0] 104));have D1:=Ad (show decide (-1000000000000000≤m∧m≤1000000000000000)=true from decide_eq_true ⟨by omega,by omega⟩);have D2:=Ad (show decide (-100≤e∧e≤100)=true from decide_eq_true ⟨by omega,by omega⟩);obtain⟨r,hr⟩: ∃r,r=bB m e:=⟨_,rfl⟩;rw[←hr];unfold bB at hr;by_cases hm0:m=0;·rw[if_pos hm0] at hr;subst hm0 hr;go_enter Tryz.func349,Tryz.ntmps349;go_wp2_with fail;refine(aR _ _ _ _).mono ?_;rintro e w1 ⟨rfl,hb1⟩;rw[D1.out];have P1:=Ad (P0.out.below hb1);have B1:=Ad (ai B0.out hb1);clear hb1;go_wp2_with fail;refine(aR _ _ _ _).mono ?_;rintro e w2 ⟨rfl,hb2⟩;rw[D2.out];have P2:=Ad (P1.out.below hb2);have B2:=Ad (ai B1.out hb2);clear hb2;have hz2:w.heap.size<w2.heap.size:=P2.out.lt;have f0:=P2.out.frozen 0;have f1:=P2.out.frozen 1;obtain⟨p0,p1⟩:=P2.out.c2;go_wp2_with fail;refine bodyPost_ret (v:=br (some (0,0))) (by simp[results,br,Tryz.results349,go_sem, *]<;>rfl) rfl ?_;exact⟨rfl,dh B2.out (Nat.le_refl _) _ _⟩
 ·rw[if_neg hm0] at hr;have hmb:(m==0)=false:=by simp[hm0]
  have R:=Ad (Ac hr (Ac hm0 (Ac hm (Ac he0 he1))));clear hr hm0 he0 he1;go_enter Tryz.func349,Tryz.ntmps349;go_wp2_with fail;refine(aR _ _ _ _).mono ?_;rintro e1 w1 ⟨rfl,hb1⟩;rw[D1.out];have P1:=Ad (P0.out.below hb1);have B1:=Ad (ai B0.out hb1);clear hb1;go_wp2_with fail;refine(aR _ _ _ _).mono ?_;rintro e1 w2 ⟨rfl,hb2⟩;rw[D2.out];have P2:=Ad (P1.out.below hb2);have B2:=Ad (ai B1.out hb2);clear hb2;go_wp2_with fail;go_loopg[0,1] m.natAbs (fun gk nn xx wr=> ∃(m' e':Int) (f:Nat),nn=.int .i64 m'∧xx=.int .i64 e'∧gk=m'.natAbs∧m'≠0∧m'.natAbs≤65536∧ -20≤e'∧e'+f≤80∧Hid (m'.natAbs<2^f∧ee f m' e'=ee 20 m e)∧wr=w2);case atStart=>exact⟨m,e,20,rfl,rfl,rfl,R.out.2.1,R.out.2.2.1,R.out.2.2.2.1,by have:=R.out.2.2.2.2;omega,⟨by have:=R.out.2.2.1;omega,rfl⟩,rfl⟩
  case round=>
   obtain⟨m',e',f,rfl,rfl,rfl,hn0,hn1,he0,he1,hf,rfl⟩:=hrel;by_cases h2:m'.tmod 2=0
   ·have h2b:(m'.tmod 2==0)=true:=by simp[h2]
    have h3:=kE h2;have h4:=lL m';obtain⟨f',rfl⟩: ∃f',f=f'+1:=⟨f-1,by rcases Nat.eq_zero_or_pos f with h|h;(·subst h;have:=hf.out.1;simp at this;omega);·omega⟩;have hf2:Hid ((m'.tdiv 2).natAbs<2^f'∧ee f' (m'.tdiv 2) (e'+1)=ee 20 m e):=by refine⟨?_,?_⟩;(·have:=hf.out.1;rw[Nat.pow_succ] at this;omega);·rw[←hf.out.2,gG h2]
    have h5:m'.tdiv 2≠0:=by omega
    have h6:(m'.tdiv 2).natAbs≤65536:=by omega
    have h7:(m'.tdiv 2).natAbs<m'.natAbs:=by omega
    clear h2 h3 h4;go_wp2_with fail;go_roundg(m'.tdiv 2).natAbs;case measure=>exact h7
    case rel=>exact⟨_,e'+1,f',rfl,by go_num,rfl,h5,h6,by omega,by omega,hf2,rfl⟩
   ·have h2b:(m'.tmod 2==0)=false:=by simp[h2]
    have ho:=kZ (e:=e') h2 f;rw[hf.out.2] at ho;have hr:=R.out.1;rw[ho] at hr;have hI:a8 m':=⟨by omega,by omega⟩;have PX:=Ad (aj.new wr 104 #[.int .i64 m',.int .i64 e']);have HR:=Ad (Ac hr hI);clear hr ho h2 hI;go_wp2_with fail;refine(cQ m' e' _ HR.out.2).mono ?_;rintro e1 w3 ⟨rfl,hb3⟩;have P3:=Ad ((P2.out.alloc (.cells #[.int .i64 m',.int .i64 e'] 104)).below hb3);have X3:=Ad (PX.out.below hb3);have B3:=Ad (ai (ab B2.out _) hb3);clear hb3;have hz3:w.heap.size<w3.heap.size:=P3.out.lt;have hz4:wr.heap.size<w3.heap.size:=X3.out.lt;have hz5:w.heap.size<wr.heap.size:=P2.out.lt;have n1:wr.heap.size≠w.heap.size:=by omega
    have n2:w.heap.size≠wr.heap.size:=by omega
    have f0:=P3.out.frozen 0;have f1:=P3.out.frozen 1;obtain⟨p0,p1⟩:=P3.out.c2;obtain⟨q0,q1⟩:=X3.out.c2;cases hok:bg m' e'
    ·have hr2:r=none:=by rw[HR.out.1];simp[hok]
     subst hr2;go_wp2_with fail;refine bodyPost_ret (v:=br none) (by simp[results,br,Tryz.results349,go_sem, *]<;>rfl) rfl ?_;exact⟨rfl,dh B3.out (Nat.le_refl _) _ _⟩
    ·have hr2:r=some (m',e'):=by rw[HR.out.1];simp[hok]
     subst hr2;go_wp2_with fail;refine bodyPost_ret (v:=br (some (m',e'))) (by simp[results,br,Tryz.results349,go_sem, *]<;>rfl) rfl ?_;exact⟨rfl,dh B3.out (Nat.le_refl _) _ _⟩
def zx(A p:Nat):Value:=.tuple #[.int .i64 (A/p:Nat),.int .i64 (if 2*(A%p)<p then-1 else if p<2*(A%p) then 1 else 0),.bool (if 2*(A%p)<p then decide (0<A%p) else true)]
theorem kK(a p:Nat){k s:Nat}(h:k≤s):a*2^k/p≤a*2^s/p:=Nat.div_le_div_right (Nat.mul_le_mul_left _ (Nat.pow_le_pow_right (by omega) h))
theorem jc(a p s:Nat)(w:World)(hp:0<p)(hp2:p≤100000000000000000)(hs:s≤40)(ha:a≤1000000000000000000)(hq:a*2^s/p≤1125899906842624):Calls Tryz.prog 348 #[.int .i64 a,.int .i64 p,.int .i64 s] w (bN w (zx (a*2^s) p)):=by
 have h1:(a:Int).tdiv p=((a/p:Nat):Int):=by rw[Int.tdiv_eq_ediv_of_nonneg (by omega)];rfl
 have h2:(a:Int).tmod p=((a%p:Nat):Int):=by rw[Int.tmod_eq_emod_of_nonneg (by omega)];rfl
 have hp0:(p:Int)≠0:=by omega
 have hp3:(0:Int)<p:=by omega
 have hlt:a%p<p:=Nat.mod_lt _ hp;have hq0:a/p≤1125899906842624:=by have:=kK a p (Nat.zero_le s);simp at this;omega
 obtain⟨V,hV⟩: ∃V,V=zx (a*2^s) p:=⟨_,rfl⟩;rw[←hV];obtain⟨q,hq'⟩: ∃q,q=a/p:=⟨_,rfl⟩;obtain⟨r,hr'⟩: ∃r,r=a%p:=⟨_,rfl⟩;rw[←hq'] at h1 hq0;rw[←hr'] at h2 hlt;have HV:=Ad (Ac hV (Ac hq' (Ac hr' (Ac hq hp))));clear hV hq' hr' hq hp;go_enter Tryz.func348,Tryz.ntmps348;go_wp2_with fail;go_loopg[9,10,11] s (fun gk u9 u10 u11 wr=> ∃k q r:Nat,u9=.int .i64 q∧u10=.int .i64 r∧u11=.int .i64 k∧gk=s-k∧k≤s∧r<p∧q≤1125899906842624∧Hid (q=a*2^k/p∧r=a*2^k%p)∧wr=w);case atStart=>exact⟨0,q,r,rfl,rfl,rfl,rfl,by omega,hlt,hq0,⟨by rw[Nat.pow_zero,Nat.mul_one];exact HV.out.2.1,by rw[Nat.pow_zero,Nat.mul_one];exact HV.out.2.2.1⟩,rfl⟩
 case round=>
  clear h1 h2 hlt hq0;obtain⟨k,q,r,rfl,rfl,rfl,rfl,hk,hrp,hq0,hqr,rfl⟩:=hrel;by_cases hks:k<s
  ·have hd:=zR (a*2^k) p HV.out.2.2.2.2;have he:2*(a*2^k)=a*2^(k+1):=by rw[Nat.pow_succ,Nat.mul_comm 2,Nat.mul_assoc]
   have hm:=kK a p (k:=k+1) (s:=s) hks;have hm2:=HV.out.2.2.2.1;rw[he,←hqr.out.1,←hqr.out.2] at hd;have hi1:(k:Int)<s:=by omega
   by_cases hge:p≤2*r
   ·obtain⟨d1,d2⟩:=hd.1 hge;have hge':(p:Int)≤2*r:=by omega
    have HD:=Ad (Ac d1 d2);rw[d1] at hm;have hq2:2*q+1≤1125899906842624:=by omega
    clear hd d1 d2 hm hm2 he;go_wp2_with fail;go_roundg(s-(k+1));case measure=>omega
    case rel=>exact⟨k+1,2*q+1,2*r-p,by go_num,by congr 1;omega,by go_num,rfl,by omega,by omega,hq2,⟨HD.out.1.symm,HD.out.2.symm⟩,rfl⟩
   ·obtain⟨d1,d2⟩:=hd.2 hge;have hge': ¬((p:Int)≤2*r):=by omega
    have HD:=Ad (Ac d1 d2);rw[d1] at hm;have hq2:2*q≤1125899906842624:=by omega
    clear hd d1 d2 hm hm2 he;go_wp2_with fail;go_roundg(s-(k+1));case measure=>omega
    case rel=>exact⟨k+1,2*q,2*r,by go_num,by go_num,by go_num,rfl,by omega,by omega,hq2,⟨HD.out.1.symm,HD.out.2.symm⟩,rfl⟩
  ·have e:k=s:=by omega
   subst e;have hV:=HV.out.1;unfold zx at hV;rw[←hqr.out.1,←hqr.out.2] at hV;by_cases c1:2*r<p
   ·have c1':(2:Int)*r<p:=by omega
    rw[if_pos c1,if_pos c1] at hV;have hb:decide ((0:Int)<r)=decide (0<r):=by simp
    have HV2:=Ad (Ac hV hb);clear hV hb;go_wp2_with fail;refine bodyPost_ret (v:=.tuple #[.int .i64 q,.int .i64 (-1),.bool (decide ((0:Int)<r))]) (by simp[results,Tryz.results348,go_sem, *]<;>rfl) rfl ?_;exact⟨by rw[HV2.out.1,←HV2.out.2],ae _⟩
   ·rw[if_neg c1,if_neg c1] at hV;have c1': ¬((2:Int)*r<p):=by omega
    by_cases c2:p<2*r
    ·have c2':(p:Int)<2*r:=by omega
     rw[if_pos c2] at hV;have HV2:=Ad hV;clear hV;go_wp2_with fail;refine bodyPost_ret (v:=.tuple #[.int .i64 q,.int .i64 1,.bool true]) (by simp[results,Tryz.results348,go_sem, *]<;>rfl) rfl ?_;exact⟨by rw[HV2.out],ae _⟩
    ·have c2': ¬((p:Int)<2*r):=by omega
     rw[if_neg c2] at hV;have HV2:=Ad hV;clear hV;go_wp2_with fail;refine bodyPost_ret (v:=.tuple #[.int .i64 q,.int .i64 0,.bool true]) (by simp[results,Tryz.results348,go_sem, *]<;>rfl) rfl ?_;exact⟨by rw[HV2.out],ae _⟩
theorem qt{n x:Int}(h:aZ n x=true): -100000000000000000<n∧n<100000000000000000∧ -16≤x∧x≤0:=by
 unfold aZ at h;split at h;·simp only[decide_eq_true_eq] at h;omega
 ·simp only[Bool.and_eq_true,decide_eq_true_eq] at h;have:=(jD n).1 h.1.2;omega
def fe(n x:Int):Bool:=match eM n x with|none=>false|some (m,e)=>decide (aI m e=(n,x))
theorem mr{n x:Int}(h:eM n x=none):fe n x=false:=by
 unfold fe;rw[h]
theorem gu{n x m e:Int}(h:eM n x=some (m,e)):fe n x=decide (aI m e=(n,x)):=by
 unfold fe;rw[h]
def aX(k n x:Int)(s:ByteArray):Value:=.agg #[.int .i64 k,.int .i64 n,.int .i64 x,.string s,.slice none 0 0]
theorem vt:Tryz.prog.underlying 108=some (.struct (Tryz.prog.fieldsOf 108)):=by
 kernel_rfl
theorem xj:Tryz.prog.stoodInHeld 108=false:=by
 kernel_rfl
theorem uW(a b n x:Int)(w:World):(binOp .eql 108 (.agg #[.int .i64 a,.int .i64 b]) (.agg #[.int .i64 n,.int .i64 x])).run Tryz.prog w=.ok (.bool (decide ((a,b)=(n,x)))) w:=by
 have e:decide ((a,b)=(n,x))=(decide (a=n)&&decide (b=x)):=by simp
 rw[e];simp only[binOp];simp[Op.equal,Op.maxDepth,run_equalIn_struct w 9999 108 _ _ vt xj,go_sem];by_cases h1:a=n<;>by_cases h2:b=x<;>simp[h1,h2]
theorem cz{w w':World}(h:Below w.heap.size w w'){b:Nat}(hb:w.heap.size≤b)(u0 u1 u2 u3 u4:Value):Below w.heap.size w (((((w'.setCell ⟨b,0,none⟩ u0).setCell ⟨b,1,none⟩ u1).setCell ⟨b,2,none⟩ u2).setCell ⟨b,3,none⟩ u3).setCell ⟨b,4,none⟩ u4):=((((h.setCell (p:=⟨b,0,none⟩) hb u0).setCell (p:=⟨b,1,none⟩) hb u1).setCell (p:=⟨b,2,none⟩) hb u2).setCell (p:=⟨b,3,none⟩) hb u3).setCell (p:=⟨b,4,none⟩) hb u4
theorem SB.bJ{α:Type}[aE α]{base b:Nat}{w:World}{l:List α}{A:Option Addr}{c:Nat}(h:SB base w l A c)(hb:b<base)(v0 v1 v2 v3 v4:Value):SB base (((((w.setCell ⟨b,0,none⟩ v0).setCell ⟨b,1,none⟩ v1).setCell ⟨b,2,none⟩ v2).setCell ⟨b,3,none⟩ v3).setCell ⟨b,4,none⟩ v4) l A c:=((((h.set hb ⟨b,0,none⟩ rfl v0).set hb ⟨b,1,none⟩ rfl v1).set hb ⟨b,2,none⟩ rfl v2).set hb ⟨b,3,none⟩ rfl v3).set hb ⟨b,4,none⟩ rfl v4
theorem sN{a p:Nat}(hp:0<p)(e:Int): ∀k:Nat,gD a p (e+k)≤gD a p e|0=>by simp|k+1=>by have h1:=nH a p hp (e+k);have h2:=sN (a:=a) hp e k;rw[show e+((k+1:Nat):Int)=e+k+1 by omega,h1];omega
theorem xG{a p:Nat}(hp:0<p){e e':Int}(h:e≤e'):gD a p e'≤gD a p e:=by
 have:=sN (a:=a) hp e (e'-e).toNat;rwa[show e+((e'-e).toNat:Int)=e' by omega] at this
theorem jI(a p e:Nat):gD a p e=a/p/2^e:=by
 unfold gD l7 fC;rw[show(-(e:Int)).toNat=0 by omega,Int.toNat_natCast,Nat.pow_zero,Nat.mul_one,Nat.div_div_eq_div_mul]
theorem xF(a p:Nat):gD a p 0=a/p:=by
 have h:=jI a p 0;rw[Nat.pow_zero,Nat.div_one] at h;exact h
theorem qH(a p s:Nat):gD a p (-(s:Int))=a*2^s/p:=by
 unfold gD l7 fC;rw[show(- -(s:Int)).toNat=s by omega,show(-(s:Int)).toNat=0 by omega,Nat.pow_zero,Nat.mul_one]
theorem uP(a p s:Nat):wg a p (-(s:Int))=a*2^s%p∧fC p (-(s:Int))=p:=by
 unfold wg l7 fC;rw[show(- -(s:Int)).toNat=s by omega,show(-(s:Int)).toNat=0 by omega,Nat.pow_zero,Nat.mul_one];exact⟨rfl,rfl⟩
theorem yi(a p e:Nat):wg a p e=a%p+p*(a/p%2^e)∧fC p e=p*2^e:=by
 unfold wg l7 fC;rw[show(-(e:Int)).toNat=0 by omega,Int.toNat_natCast,Nat.pow_zero,Nat.mul_one,Nat.mod_mul];exact⟨rfl,rfl⟩
theorem ue{a p e:Nat}(hp:0<p)(h1:a/p<65536*2^e)(h2: ∀e',e'<e→65536*2^e'≤a/p)(he:0<e):gh a p e:=by
 refine⟨?_,fun e' h3 h4=> ?_⟩
 ·rw[jI];have:a/p/2^e<65536:=by rw[Nat.div_lt_iff_lt_mul (Nat.pow_pos (by omega))];exact h1
  omega
 ·have h5:=xG (a:=a) hp (show e'≤((e-1:Nat):Int) by omega);have h6:65536≤gD a p ((e-1:Nat):Int):=by rw[jI,Nat.le_div_iff_mul_le (Nat.pow_pos (by omega))];exact h2 _ (by omega)
  omega
theorem oI{a p:Nat}{e:Int}(hp:0<p)(h1:gD a p e≤65535)(h2:e= -16∨65535<gD a p (e-1))(he: -16≤e):gh a p e:=by
 refine⟨h1,fun e' h3 h4=> ?_⟩;rcases h2 with h2|h2;·omega
 ·have:=xG (a:=a) hp (show e'≤e-1 by omega);omega
theorem wD{r p L T:Nat}(hr:r<p):(T<L∨(L=T∧0<r)→p*(2*T)<2*(r+p*L))∧(L=T∧r=0→2*(r+p*L)=p*(2*T))∧(L<T→2*(r+p*L)<p*(2*T)):=by
 have e:p*(2*T)=2*(p*T):=by rw[Nat.mul_left_comm]
 rw[e];refine⟨fun h=> ?_,fun h=> ?_,fun h=> ?_⟩
 ·rcases h with h|⟨h,h2⟩;·have:=Nat.mul_le_mul_left p (show T+1≤L from h);rw[Nat.mul_add,Nat.mul_one] at this;omega
  ·subst h;omega
 ·rw[h.1,h.2];omega
 ·have:=Nat.mul_le_mul_left p (show L+1≤T from h);rw[Nat.mul_add,Nat.mul_one] at this;omega
def qq(a p:Nat)(e:Int)(q:Nat)(v12 v13:Value):Prop:=q=gD a p e∧((v12=.int .i64 (-1)∧(∃b,v13=.bool b)∧dQ a p e=q)∨(v12=.int .i64 1∧v13=.bool true∧dQ a p e=q+1)∨(v12=.int .i64 0∧v13=.bool true∧dQ a p e=if q%2=1 then q+1 else q))
theorem pO{a p:Nat}{e:Int}(v12 v13:Value)(h:(v12=.int .i64 (-1)∧(∃b,v13=.bool b)∧2*wg a p e<fC p e)∨(v12=.int .i64 1∧v13=.bool true∧fC p e<2*wg a p e)∨(v12=.int .i64 0∧v13=.bool true∧2*wg a p e=fC p e)):qq a p e (gD a p e) v12 v13:=by
 refine⟨rfl,?_⟩;unfold dQ;rcases h with⟨h1,h2,h3⟩|⟨h1,h2,h3⟩|⟨h1,h2,h3⟩;·exact .inl ⟨h1,h2,if_neg (by omega)⟩
 ·exact .inr (.inl ⟨h1,h2,if_pos (.inl h3)⟩)
 ·refine .inr (.inr ⟨h1,h2,?_⟩);by_cases h:gD a p e%2=1;·rw[if_pos h,if_pos (.inr ⟨h3,h⟩)]
  ·rw[if_neg h,if_neg (by omega)]
theorem v7{a p s:Nat}:qq a p (-(s:Int)) (a*2^s/p) (.int .i64 (if 2*(a*2^s%p)<p then-1 else if p<2*(a*2^s%p) then 1 else 0)) (.bool (if 2*(a*2^s%p)<p then decide (0<a*2^s%p) else true)):=by
 rw[←qH];apply pO;rw[(uP a p s).1,(uP a p s).2];by_cases h1:2*(a*2^s%p)<p;·rw[if_pos h1,if_pos h1];exact .inl ⟨rfl,⟨_,rfl⟩,h1⟩
 ·rw[if_neg h1,if_neg h1];by_cases h2:p<2*(a*2^s%p);·rw[if_pos h2];exact .inr (.inl ⟨rfl,rfl,h2⟩)
  ·rw[if_neg h2];exact .inr (.inr ⟨rfl,rfl,by omega⟩)
theorem yW{T V:Nat}(hT:T=65536*2^0)(hc: ¬(T≤V)):V<65536:=by
 rw[Nat.pow_zero,Nat.mul_one] at hT;omega
theorem xR{a p V:Nat}(hV:V=a/p)(h:V<65536):gD a p 0≤65535:=by
 rw[xF,←hV];omega
theorem wv{a p s:Nat}{e2:Int}(hp:0<p)(hs:1-e2=s)(h:gD a p e2≤65535):gD a p (e2-1)=a*2^s/p∧a*2^s/p≤131071:=by
 have h1:gD a p (e2-1)=a*2^s/p:=by rw[←qH];congr 1;omega
 have hst:=nH a p hp (e2-1);rw[show e2-1+1=e2 by omega,h1] at hst;exact⟨h1,by omega⟩
theorem wl{L V:Nat}(h:L≤V)(hV:V<100000000000000000):wrap64 (L:Int)=(L:Int):=by
 unfold wrap64;omega
theorem zD{n e:Int}{a p rm:Nat}{r:Option (Int×Int)}(hp:0<p)(h:gh a p e)(h0: -16≤e)(hrm:dQ a p e=rm)(hr:r=bB (mh n rm) e):rm≤65536∧(rm=65536→r=bB (mh n 32768) (e+1))∧(rm=65536→30<e+1→r=none)∧(rm≠65536→30<e→r=none):=by
 refine⟨by rw[←hrm];exact pW h.1,fun h1=> ?_,fun h1 h2=> ?_,fun h1 h2=> ?_⟩;·rw[hr,h1,kS]
 ·rw[hr,h1,kS];exact my (by rw[kI];exact Nat.le_refl _) (by omega)
 ·rw[hr];have h3:=tN hp h (by omega);have h4:=vH a p e;exact my (by rw[kI];omega) (by omega)
theorem zU{T V e:Nat}(hT:T=65536*2^e)(hc:T≤V)(hV:V<100000000000000000)(he:e≤42):e+1≤42:=by
 apply Nat.lt_of_not_le;intro h;have h2:2^42≤2^e:=Nat.pow_le_pow_right (by omega) h;omega
theorem xT{T V e:Nat}(h: ∀e',e'<e→65536*2^e'≤V)(hT:T=65536*2^e)(hc:T≤V): ∀e',e'<e+1→65536*2^e'≤V:=fun e' h1=>by rcases Nat.lt_succ_iff_lt_or_eq.1 h1 with h2|h2;(·exact h e' h2);·rw[h2,←hT];exact hc
theorem dc(n x:Int)(w:World)(hok:aZ n x=true)(hn0: -100000000000000000<n)(hn1:n<100000000000000000)(hx0: -16≤x)(hx1:x≤0):Calls Tryz.prog 317 #[.agg #[.int .i64 n,.int .i64 x]] w (bN w (br (eM n x))):=by
 have B0:=Ad (ab (ab (ae w) (.cells #[.int .i64 n,.int .i64 x] 108)) (.cells #[.int .i64 0,.int .i64 0] 104));have P0:=Ad ((aj.new w 108 #[.int .i64 n,.int .i64 x]).alloc (.cells #[.int .i64 0,.int .i64 0] 104));have P1:=Ad (aj.at (w:=w.alloc (.cells #[.int .i64 n,.int .i64 x] 108)) (g:=w.heap.size+1) (t:=104) (cs:=#[.int .i64 0,.int .i64 0]) (by simp));obtain⟨k,hk⟩: ∃k:Nat,-x=k:=⟨(-x).toNat,by omega⟩;obtain⟨p,hp⟩: ∃p,p=10^k:=⟨_,rfl⟩;obtain⟨a,ha⟩: ∃a,a=n.natAbs:=⟨_,rfl⟩;obtain⟨r,hr⟩: ∃r,r=eM n x:=⟨_,rfl⟩;rw[←hr];have hp0:0<p:=by rw[hp];exact Nat.pow_pos (by omega)
 have hp1:p≤10000000000000000:=by have:10^k≤10^16:=Nat.pow_le_pow_right (by omega) (by omega);omega
 have hPow: ∀w,Calls Tryz.prog 236 #[.int .i64 10,.int .i64 (k:Int)] w (bN w (.int .i64 (p:Int))):=fun w=>by rw[hp];exact vL k w (by omega)
 have hI:a8 n:=⟨by omega,by omega⟩;have hrr: ∀e,gh a p e→ -16≤e→e≤50→r=bB (mh n (dQ a p e)) e:=fun e h0 h1 h2=>by(have hkx:(-x).toNat=k:=by omega);rw[hr,rP (by rw[hkx,←hp,←ha];exact h0) h1 h2,hkx,←hp];unfold uu;rw[←ha]
 have HI:=Ad (Ac hI (Ac hok (Ac hPow (Ac hrr ha))));clear hI hok hPow hrr hr hp;have ha1:a<100000000000000000:=by omega
 clear ha;have hnx:IntKind.i64.wrap (-x)=(k:Int):=by rw[IntKind.wrap_i64];omega
 go_enter Tryz.func317,Tryz.ntmps317;go_wp2_with fail;refine(bA n x _ HI.out.1).mono ?_;rintro e w1 ⟨rfl,hb1⟩;rw[HI.out.2.1];have Q0:=Ad (P0.out.below hb1);have Q1:=Ad (P1.out.below hb1);have B1:=Ad (ai B0.out hb1);clear hb1;have hz1:w.heap.size+1<w1.heap.size:=Q1.out.lt;obtain⟨p0,p1⟩:=Q0.out.c2;go_upto_if 26 with fail;go_cut[4,5] (fun s4 s5 wx=> ∃sg:Int,s4=.int .i64 (a:Int)∧s5=.int .i64 sg∧(sg=1∨sg= -1)∧Hid (∀m:Nat,sg*m=mh n m)∧wx=w1)
 case first=>
  by_cases hneg:n<0
  ·have hnw:IntKind.i64.wrap (-n)=(a:Int):=by have h:=HI.out.2.2.2.2;rw[IntKind.wrap_i64];omega
   go_wp2_with fail;go_meet;exact⟨-1,rfl,rfl,.inr rfl,fun m=>by unfold mh;rw[if_pos hneg];omega,rfl⟩
  ·go_wp2_with fail;go_meet;exact⟨1,by congr 1;have:=HI.out.2.2.2.2;omega,rfl,.inl rfl,fun m=>by unfold mh;rw[if_neg (by omega)];omega,rfl⟩
 case rest=>
  obtain⟨sg,rfl,rfl,hsg,hsgn,rfl⟩:=hcut;obtain⟨V,hV⟩: ∃V,V=a/p:=⟨_,rfl⟩;have hV1:V<100000000000000000:=by rw[hV];have:=Nat.div_le_self a p;omega
  have htd:(a:Int).tdiv p=(V:Int):=by rw[Int.tdiv_eq_ediv_of_nonneg (by omega),hV];rfl
  have htm:(a:Int).tmod p=((a%p:Nat):Int):=by rw[Int.tmod_eq_emod_of_nonneg (by omega)];rfl
  have hpi:(0:Int)<p:=by omega
  have HV:=Ad hV;clear hV;go_wp2_with fail;refine(HI.out.2.2.1 _).mono ?_;rintro e w2 ⟨rfl,hb2⟩;have R0:=Ad (Q0.out.below hb2);have R1:=Ad (Q1.out.below hb2);have B2:=Ad (ai B1.out hb2);clear hb2 p0 p1;go_wp2_with fail;go_loopg[7] 45 (fun gk u7 wr=> ∃e:Nat,u7=.int .i64 e∧gk=45-e∧e≤42∧Hid (∀e',e'<e→65536*2^e'≤V)∧aj wr (w.heap.size+1) 104 #[.int .i64 0,.int .i64 0]∧Below w.heap.size w wr);case atStart=>exact⟨0,rfl,rfl,by omega,fun e' h=>by omega,R1.out,B2.out⟩
  case round=>
   obtain⟨e,rfl,rfl,he42,hes,hR,hbel⟩:=hrel;obtain⟨T,hT⟩: ∃T:Nat,T=65536*2^e:=⟨_,rfl⟩;have hT1:T≤65536*4398046511104:=by have:2^e≤2^42:=Nat.pow_le_pow_right (by omega) he42;omega
   have hTi:(65536:Int)*2^e=(T:Int):=by rw[hT];simp
   have hTw:wrap64 (T:Int)=(T:Int):=by unfold wrap64;omega
   have he64:min e 64=e:=by omega
   have HT:=Ad hT;clear hT;have HX:=Ad (Ac hR hbel);have hzr:=hR.lt;clear hR hbel;by_cases hc:T≤V
   ·have hc':(T:Int)≤V:=by omega
    go_wp2_with fail;go_quiet(fail);go_wp2_with fail;go_roundg(45-(e+1));case measure=>omega
    case rel=>have h42:=zU HT.out hc hV1 he42;have hes':Hid (∀e',e'<e+1→65536*2^e'≤V):=xT hes.out HT.out hc;exact⟨e+1,rfl,rfl,h42,hes',HX.out.1.drewN nq,below_drewN HX.out.2 nq⟩
   ·have hc': ¬((T:Int)≤V):=by omega
    go_wp2_with fail;go_quiet(fail);go_upto_if 42 with fail;have HW:=Ad (Ac (HX.out.1.drewN nq) (below_drewN HX.out.2 nq));have hzw:w.heap.size+1<(wr.drewN nq).heap.size:=HW.out.1.lt;generalize wr.drewN nq=W at HW hzw ⊢;go_cut[7] (fun s7 wx=> ∃e2:Int,s7=.int .i64 e2∧ -16≤e2∧e2≤42∧Hid (gh a p e2)∧aj wx (w.heap.size+1) 104 #[.int .i64 0,.int .i64 0]∧Below w.heap.size w wx)
    case first=>
     by_cases he0:e=0
     ·subst he0;have hV6:V<65536:=yW HT.out hc;have HQ0:Hid (gD a p 0≤65535):=xR HV.out hV6;clear hTi hTw he64 hc hc' hT1;go_wp2_with fail;go_loopg[7] 16 (fun gk u7 wr2=> ∃e2:Int,u7=.int .i64 e2∧gk=(e2+16).toNat∧ -16≤e2∧e2≤0∧Hid (gD a p e2≤65535)∧aj wr2 (w.heap.size+1) 104 #[.int .i64 0,.int .i64 0]∧Below w.heap.size w wr2);case atStart=>exact⟨0,rfl,rfl,by omega,by omega,HQ0,HW.out.1,HW.out.2⟩
      case round=>
       rename_i wr2;obtain⟨e2,rfl,rfl,h2lo,h2hi,hq2,hR2,hbel2⟩:=hrel;have HY:=Ad (Ac hR2 hbel2);clear hR2 hbel2;by_cases hc2: -16<e2
       ·obtain⟨s,hs⟩: ∃s:Nat,1-e2=s:=⟨(1-e2).toNat,by omega⟩;have hqe:=wv hp0 hs hq2.out;have hs17:s≤17:=by omega
        have hsc:=Ad (fun w=>jc a p s w hp0 (Nat.le_trans hp1 (by decide)) (Nat.le_trans hs17 (by decide)) (Nat.le_trans (Nat.le_of_lt ha1) (by decide)) (Nat.le_trans hqe.2 (by decide)));have HQE:=Ad hqe;clear hqe;go_wp2_with fail;refine(hsc.out _).mono ?_;rintro e3 w3 ⟨rfl,hb3⟩;unfold zx;have HB3:=Ad (Ac (HY.out.1.below hb3) (ai HY.out.2 hb3));clear hb3;obtain⟨q,hq⟩: ∃q,q=a*2^s/p:=⟨_,rfl⟩;rw[←hq];have HQ:=Ad hq;clear hq;generalize(if 2*(a*2^s%p)<p then(-1:Int) else if p<2*(a*2^s%p) then 1 else 0)=hv;generalize(if 2*(a*2^s%p)<p then decide (0<a*2^s%p) else true)=rv;by_cases hq65:65535<q
        ·have hq65':(65535:Int)<q:=by omega
         go_wp2_with fail;go_meet;exact⟨e2,rfl,h2lo,by omega,oI hp0 hq2.out (.inr (by rw[HQE.out.1,←HQ.out];exact hq65)) h2lo,HB3.out.1,HB3.out.2⟩
        ·have hq65': ¬((65535:Int)<q):=by omega
         go_wp2_with fail;go_roundg(e2-1+16).toNat;case measure=>omega
         case rel=>exact⟨e2-1,rfl,rfl,by omega,by omega,by show _≤_;rw[HQE.out.1,←HQ.out];omega,HB3.out.1,HB3.out.2⟩
       ·have he16:Hid (e2= -16):=by show _=_;omega
        have hc2': ¬(-16<e2):=hc2;go_wp2_with fail;go_meet;exact⟨e2,rfl,h2lo,by omega,oI hp0 hq2.out (.inl he16.out) h2lo,HY.out.1,HY.out.2⟩
     ·have he1:((e:Int)==0)=false:=by simp[he0]
      have hl:Hid (gh a p e):=ue hp0 (by rw[←HV.out];have:=HT.out;omega) (fun e' h=>by rw[←HV.out];exact hes.out e' h) (by omega);clear he0;go_wp2_with fail;go_meet;exact⟨e,rfl,by omega,by omega,hl,HW.out.1,HW.out.2⟩
    case rest=>
     rename_i wc2;obtain⟨e2,rfl,h2lo,h2hi,hle,hR2,hbel2⟩:=hcut;have HY:=Ad (Ac hR2 hbel2);clear hR2 hbel2 hTi hTw he64 hc hc' hT1 hzw;go_upto_if 59 with fail;go_cut[11,12,13] (fun s11 s12 s13 wx=> ∃q:Nat,s11=.int .i64 q∧Hid (qq a p e2 q s12 s13)∧aj wx (w.heap.size+1) 104 #[.int .i64 0,.int .i64 0]∧Below w.heap.size w wx)
     case first=>
      by_cases hlz:e2≤0
      ·obtain⟨s,hs⟩: ∃s:Nat,-e2=s:=⟨(-e2).toNat,by omega⟩;have hes2:e2= -(s:Int):=by omega
       have hsw:IntKind.i64.wrap (-e2)=(s:Int):=by rw[IntKind.wrap_i64];omega
       have hqe:a*2^s/p≤65535:=by rw[←qH,←hes2];exact hle.out.1
       have hs17:s≤17:=by omega
       have hsc:=Ad (fun w=>jc a p s w hp0 (Nat.le_trans hp1 (by decide)) (Nat.le_trans hs17 (by decide)) (Nat.le_trans (Nat.le_of_lt ha1) (by decide)) (Nat.le_trans hqe (by decide)));have HES:=Ad hes2;clear hes2 hqe;go_wp2_with fail;refine(hsc.out _).mono ?_;rintro e3 w3 ⟨rfl,hb3⟩;unfold zx;have HB3:=Ad (Ac (HY.out.1.below hb3) (ai HY.out.2 hb3));clear hb3;have hh:=Ad (v7 (a:=a) (p:=p) (s:=s));rw[←HES.out] at hh;generalize(if 2*(a*2^s%p)<p then(-1:Int) else if p<2*(a*2^s%p) then 1 else 0)=hv at hh ⊢;generalize(if 2*(a*2^s%p)<p then decide (0<a*2^s%p) else true)=rv at hh ⊢;generalize a*2^s/p=q at hh ⊢;go_wp2_with fail;go_meet;exact⟨q,rfl,hh,HB3.out.1,HB3.out.2⟩
      ·obtain⟨j,rfl⟩: ∃j:Nat,e2=j:=⟨e2.toNat,by omega⟩;have hj1:1≤j:=by omega
       have hj64:min j 64=j:=by omega
       obtain⟨i,hi⟩: ∃i:Nat,(j:Int)-1=i:=⟨j-1,by omega⟩;have hji:j=i+1:=by omega
       have hi64:min i 64=i:=by omega
       obtain⟨m,hm,hmi⟩: ∃m:Nat,m=V/2^j∧(V:Int)/2^j=(m:Int):=⟨_,rfl,by simp⟩;obtain⟨M,hM,hMi⟩: ∃M:Nat,M=m*2^j∧(m:Int)*2^j=(M:Int):=⟨_,rfl,by simp⟩;obtain⟨L,hL⟩: ∃L:Nat,L=V%2^j:=⟨_,rfl⟩;obtain⟨Tt,hTt,hTti⟩: ∃Tt:Nat,Tt=2^i∧(2:Int)^i=(Tt:Int):=⟨_,rfl,by simp⟩;obtain⟨r0,hr0⟩: ∃r0:Nat,r0=a%p:=⟨_,rfl⟩;have hML:V=M+L:=by rw[hM,hm,hL,Nat.mul_comm];exact(Nat.div_add_mod V (2^j)).symm
       have hMw:wrap64 (M:Int)=(M:Int):=by unfold wrap64;omega
       have hLi:(V:Int)-M=(L:Int):=by omega
       have hTt0:0<Tt:=by rw[hTt];exact Nat.pow_pos (by omega)
       have hTt1:Tt≤4398046511104:=by have:2^i≤2^42:=Nat.pow_le_pow_right (by omega) (by omega);omega
       have hTtw:wrap64 (Tt:Int)=(Tt:Int):=by unfold wrap64;omega
       rw[←hr0] at htm;have hrp:r0<p:=by rw[hr0];exact Nat.mod_lt _ hp0
       have hq:gD a p (j:Int)=m:=by rw[jI,←HV.out,hm]
       have hre:wg a p (j:Int)=r0+p*L∧fC p (j:Int)=p*(2*Tt):=by obtain⟨h1,h2⟩:=yi a p j;refine⟨by rw[h1,hr0,hL,HV.out],by rw[h2,hji,Nat.pow_succ,hTt,Nat.mul_comm 2]⟩
       have hh:=wD (L:=L) (T:=Tt) hrp;have HH:Hid (∀v12 v13,((v12=.int .i64 (-1)∧(∃b,v13=.bool b)∧L<Tt)∨(v12=.int .i64 1∧v13=.bool true∧(Tt<L∨(L=Tt∧0<r0)))∨(v12=.int .i64 0∧v13=.bool true∧(L=Tt∧r0=0)))→qq a p (j:Int) m v12 v13):=fun v12 v13 h=>by rw[←hq];apply pO;rw[hre.1,hre.2];rcases h with⟨h1,h2,h3⟩|⟨h1,h2,h3⟩|⟨h1,h2,h3⟩;(·exact .inl ⟨h1,h2,hh.2.2 h3⟩);(·exact .inr (.inl ⟨h1,h2,hh.1 h3⟩));·exact .inr (.inr ⟨h1,h2,hh.2.1 h3⟩)
       have hLV:L≤V:=by rw[hML];exact Nat.le_add_left _ _
       have hwl:=wl hLV hV1;have hi42:i≤42:=by clear hmi hMi hTti hLi hMw hTtw hML;omega
       have HF:=Ad (Ac hmi (Ac hMi (Ac hTti (Ac hLi (Ac hMw (Ac hTtw hwl))))));clear hh hq hre hrp hr0 hTt hL hM hm hji hTt1 hmi hMi hTti hLi hMw hTtw hwl hML;go_upto_region 24 with fail;simp only[HF.out.1];go_upto_region 25 with fail;simp only[HF.out.2.1,HF.out.2.2.2.2.1,HF.out.2.2.2.1,HF.out.2.2.2.2.2.2];go_upto_region 26 with fail;simp only[HF.out.2.2.1,HF.out.2.2.2.2.2.1];rcases Nat.lt_trichotomy Tt L with hc1|hc1|hc1
       ·have g1:(Tt:Int)<L:=by omega
        have g2:(0:Int)<L:=by omega
        go_wp2_with fail;go_meet;exact⟨m,rfl,HH.out _ _ (.inr (.inl ⟨rfl,rfl,.inl hc1⟩)),HY.out.1,HY.out.2⟩
       ·subst hc1;have g1: ¬((Tt:Int)<Tt):=by omega
        have g2:(0:Int)<Tt:=by omega
        rcases Nat.eq_zero_or_pos r0 with hr1|hr1
        ·have g3: ¬((0:Int)<r0):=by omega
         have HR1:=Ad hr1;clear hr1;go_wp2_with fail;go_meet;exact⟨m,rfl,HH.out _ _ (.inr (.inr ⟨rfl,rfl,by simp[HR1.out]⟩)),HY.out.1,HY.out.2⟩
        ·have g3:(0:Int)<r0:=by omega
         go_wp2_with fail;go_meet;exact⟨m,rfl,HH.out _ _ (.inr (.inl ⟨rfl,rfl,by simp[hr1]⟩)),HY.out.1,HY.out.2⟩
       ·have g1: ¬((Tt:Int)<L):=by omega
        have g2:((L:Int)==Tt)=false:=by simp;omega
        by_cases hl0:0<L
        ·have g3:(0:Int)<L:=by omega
         go_wp2_with fail;go_meet;exact⟨m,rfl,HH.out _ _ (.inl ⟨rfl,⟨_,rfl⟩,hc1⟩),HY.out.1,HY.out.2⟩
        ·have g3: ¬((0:Int)<L):=by omega
         go_wp2_with fail;go_meet;exact⟨m,rfl,HH.out _ _ (.inl ⟨rfl,⟨_,rfl⟩,hc1⟩),HY.out.1,HY.out.2⟩
     case rest=>
      rename_i wc3;obtain⟨q,rfl,hhalf,hR3,hbel3⟩:=hcut;have HZ:=Ad (Ac hR3 hbel3);clear hR3 hbel3;go_upto_region 31 with fail;go_cut[123] (fun s123 wx=> ∃b:Bool,s123=.bool b∧Hid (dQ a p e2=if b then q+1 else q)∧aj wx (w.heap.size+1) 104 #[.int .i64 0,.int .i64 0]∧Below w.heap.size w wx)
      case first=>
       rcases hhalf.out.2 with⟨rfl,⟨b,rfl⟩,hrd⟩|⟨rfl,rfl,hrd⟩|⟨rfl,rfl,hrd⟩
       ·have HRD:=Ad hrd;clear hrd;cases b;·go_wp2_with fail;go_meet;exact⟨false,rfl,HRD.out,HZ.out.1,HZ.out.2⟩
        ·go_wp2_with fail;go_meet;exact⟨false,rfl,HRD.out,HZ.out.1,HZ.out.2⟩
       ·have HRD:=Ad hrd;clear hrd;go_wp2_with fail;go_meet;exact⟨true,rfl,HRD.out,HZ.out.1,HZ.out.2⟩
       ·by_cases hpar:q%2=1
        ·have hp2:(((q:Int)%2)==1)=true:=by simp;omega
         rw[if_pos hpar] at hrd;have HRD:=Ad hrd;clear hrd hpar;go_wp2_with fail;go_meet;exact⟨true,by first|rfl|simpa using hp2,HRD.out,HZ.out.1,HZ.out.2⟩
        ·have hp2:(((q:Int)%2)==1)=false:=by simp;omega
         rw[if_neg hpar] at hrd;have HRD:=Ad hrd;clear hrd hpar;go_wp2_with fail;go_meet;exact⟨false,by first|rfl|simpa using hp2,HRD.out,HZ.out.1,HZ.out.2⟩
      case rest=>
       obtain⟨b,rfl,hrd,hR4,hbel4⟩:=hcut;have HZ4:=Ad (Ac hR4 hbel4);clear hR4 hbel4;obtain⟨rm,hrm⟩: ∃rm,rm=dQ a p e2:=⟨_,rfl⟩;have hqb:q≤65535:=by rw[hhalf.out.1];exact hle.out.1
       have HRM:=Ad (Ac hrm (zD (r:=r) (n:=n) hp0 hle.out h2lo hrm.symm (by rw[hrm];exact HI.out.2.2.2.1 e2 hle.out h2lo (Int.le_trans h2hi (by decide)))));have HRR:=Ad (show r=bB (mh n rm) e2 by rw[hrm];exact HI.out.2.2.2.1 e2 hle.out h2lo (Int.le_trans h2hi (by decide)));rw[←hrm] at hrd;have HB:=Ad hrd.out;clear hrm hrd hhalf;go_upto_if 123 with fail;go_cut[11] (fun s11 wx=>s11=.int .i64 (rm:Int)∧aj wx (w.heap.size+1) 104 #[.int .i64 0,.int .i64 0]∧Below w.heap.size w wx)
       case first=>
        cases b
        ·have hrq:rm=q:=by have:=HB.out;simpa using this
         subst hrq;go_wp2_with fail;go_meet;exact⟨rfl,HZ4.out.1,HZ4.out.2⟩
        ·have hrq:rm=q+1:=by have:=HB.out;simpa using this
         subst hrq;go_wp2_with fail;go_meet;exact⟨by go_num,HZ4.out.1,HZ4.out.2⟩
       case rest=>
        obtain⟨rfl,hR5,hbel5⟩:=hcut;have hz5:=hR5.lt;have HZ5:=Ad (Ac hR5 hbel5);clear hR5 hbel5 htd htm hnx hk;have hrb:=HRM.out.2.1;rcases hsg with rfl|rfl
        ·by_cases h6:rm=65536
         ·by_cases h30:30<e2+1;·have hn:=HRM.out.2.2.2.1 h6 h30;subst h6;subst hn;have f0:=HZ5.out.1.frozen 0;have f1:=HZ5.out.1.frozen 1;obtain⟨y0,y1⟩:=HZ5.out.1.c2;go_wp2_with fail;refine bodyPost_ret (v:=br none) (by simp[results,br,Tryz.results317,go_sem, *]<;>rfl) rfl ?_;exact⟨rfl,dh HZ5.out.2 (by omega) _ _⟩
          ·have hr2:=Ad (HRM.out.2.2.1 h6);subst h6;have hX:bB 32768 (e2+1)=r:=by rw[hr2.out,←hsgn.out 32768]<;>(congr 1<;>omega)
           have HX9:=Ad hX;clear hX;go_wp2_with fail;refine(eH 32768 (e2+1) _ (by omega) (by omega) (by omega)).mono ?_;rintro e9 w9 ⟨rfl,hb9⟩;rw[HX9.out];have HZ9:=Ad (Ac (HZ5.out.1.below hb9) (ai HZ5.out.2 hb9));clear hb9;have hz9:=HZ9.out.1.lt;have f0:=HZ9.out.1.frozen 0;have f1:=HZ9.out.1.frozen 1;obtain⟨y0,y1⟩:=HZ9.out.1.c2;have n1:w9.heap.size≠w.heap.size+1:=by omega
           have n2:w.heap.size+1≠w9.heap.size:=by omega
           rcases r with _|⟨m',e'⟩;·unfold br;go_wp2_with fail;refine bodyPost_ret (v:=br none) (by simp[results,br,Tryz.results317,go_sem, *]<;>rfl) rfl ?_;exact⟨rfl,by first|exact ab (dh HZ9.out.2 (by omega) _ _) _|exact dh (ab HZ9.out.2 _) (by omega) _ _⟩
           ·unfold br;go_wp2_with fail;refine bodyPost_ret (v:=br (some (m',e'))) (by simp[results,br,Tryz.results317,go_sem, *]<;>rfl) rfl ?_;exact⟨rfl,by first|exact ab (dh HZ9.out.2 (by omega) _ _) _|exact dh (ab HZ9.out.2 _) (by omega) _ _⟩
         ·have h6':((rm:Int)==65536)=false:=by simp;omega
          by_cases h30:30<e2;·have hn:=HRM.out.2.2.2.2 h6 h30;subst hn;clear h6;have f0:=HZ5.out.1.frozen 0;have f1:=HZ5.out.1.frozen 1;obtain⟨y0,y1⟩:=HZ5.out.1.c2;go_wp2_with fail;refine bodyPost_ret (v:=br none) (by simp[results,br,Tryz.results317,go_sem, *]<;>rfl) rfl ?_;exact⟨rfl,dh HZ5.out.2 (by omega) _ _⟩
          ·clear h6;have hX:bB (rm:Int) e2=r:=by rw[HRR.out,←hsgn.out rm]<;>(congr 1<;>omega)
           have HX9:=Ad hX;clear hX;go_wp2_with fail;refine(eH (rm:Int) e2 _ (by omega) (by omega) (by omega)).mono ?_;rintro e9 w9 ⟨rfl,hb9⟩;rw[HX9.out];have HZ9:=Ad (Ac (HZ5.out.1.below hb9) (ai HZ5.out.2 hb9));clear hb9;have hz9:=HZ9.out.1.lt;have f0:=HZ9.out.1.frozen 0;have f1:=HZ9.out.1.frozen 1;obtain⟨y0,y1⟩:=HZ9.out.1.c2;have n1:w9.heap.size≠w.heap.size+1:=by omega
           have n2:w.heap.size+1≠w9.heap.size:=by omega
           rcases r with _|⟨m',e'⟩;·unfold br;go_wp2_with fail;refine bodyPost_ret (v:=br none) (by simp[results,br,Tryz.results317,go_sem, *]<;>rfl) rfl ?_;exact⟨rfl,by first|exact ab (dh HZ9.out.2 (by omega) _ _) _|exact dh (ab HZ9.out.2 _) (by omega) _ _⟩
           ·unfold br;go_wp2_with fail;refine bodyPost_ret (v:=br (some (m',e'))) (by simp[results,br,Tryz.results317,go_sem, *]<;>rfl) rfl ?_;exact⟨rfl,by first|exact ab (dh HZ9.out.2 (by omega) _ _) _|exact dh (ab HZ9.out.2 _) (by omega) _ _⟩
        ·by_cases h6:rm=65536
         ·by_cases h30:30<e2+1;·have hn:=HRM.out.2.2.2.1 h6 h30;subst h6;subst hn;have f0:=HZ5.out.1.frozen 0;have f1:=HZ5.out.1.frozen 1;obtain⟨y0,y1⟩:=HZ5.out.1.c2;go_wp2_with fail;refine bodyPost_ret (v:=br none) (by simp[results,br,Tryz.results317,go_sem, *]<;>rfl) rfl ?_;exact⟨rfl,dh HZ5.out.2 (by omega) _ _⟩
          ·have hr2:=Ad (HRM.out.2.2.1 h6);subst h6;have hX:bB (-32768) (e2+1)=r:=by rw[hr2.out,←hsgn.out 32768]<;>(congr 1<;>omega)
           have HX9:=Ad hX;clear hX;go_wp2_with fail;refine(eH (-32768) (e2+1) _ (by omega) (by omega) (by omega)).mono ?_;rintro e9 w9 ⟨rfl,hb9⟩;rw[HX9.out];have HZ9:=Ad (Ac (HZ5.out.1.below hb9) (ai HZ5.out.2 hb9));clear hb9;have hz9:=HZ9.out.1.lt;have f0:=HZ9.out.1.frozen 0;have f1:=HZ9.out.1.frozen 1;obtain⟨y0,y1⟩:=HZ9.out.1.c2;have n1:w9.heap.size≠w.heap.size+1:=by omega
           have n2:w.heap.size+1≠w9.heap.size:=by omega
           rcases r with _|⟨m',e'⟩;·unfold br;go_wp2_with fail;refine bodyPost_ret (v:=br none) (by simp[results,br,Tryz.results317,go_sem, *]<;>rfl) rfl ?_;exact⟨rfl,by first|exact ab (dh HZ9.out.2 (by omega) _ _) _|exact dh (ab HZ9.out.2 _) (by omega) _ _⟩
           ·unfold br;go_wp2_with fail;refine bodyPost_ret (v:=br (some (m',e'))) (by simp[results,br,Tryz.results317,go_sem, *]<;>rfl) rfl ?_;exact⟨rfl,by first|exact ab (dh HZ9.out.2 (by omega) _ _) _|exact dh (ab HZ9.out.2 _) (by omega) _ _⟩
         ·have h6':((rm:Int)==65536)=false:=by simp;omega
          by_cases h30:30<e2;·have hn:=HRM.out.2.2.2.2 h6 h30;subst hn;clear h6;have f0:=HZ5.out.1.frozen 0;have f1:=HZ5.out.1.frozen 1;obtain⟨y0,y1⟩:=HZ5.out.1.c2;go_wp2_with fail;refine bodyPost_ret (v:=br none) (by simp[results,br,Tryz.results317,go_sem, *]<;>rfl) rfl ?_;exact⟨rfl,dh HZ5.out.2 (by omega) _ _⟩
          ·clear h6;have hX:bB (-(rm:Int)) e2=r:=by rw[HRR.out,←hsgn.out rm]<;>(congr 1<;>omega)
           have HX9:=Ad hX;clear hX;go_wp2_with fail;refine(eH (-(rm:Int)) e2 _ (by omega) (by omega) (by omega)).mono ?_;rintro e9 w9 ⟨rfl,hb9⟩;rw[HX9.out];have HZ9:=Ad (Ac (HZ5.out.1.below hb9) (ai HZ5.out.2 hb9));clear hb9;have hz9:=HZ9.out.1.lt;have f0:=HZ9.out.1.frozen 0;have f1:=HZ9.out.1.frozen 1;obtain⟨y0,y1⟩:=HZ9.out.1.c2;have n1:w9.heap.size≠w.heap.size+1:=by omega
           have n2:w.heap.size+1≠w9.heap.size:=by omega
           rcases r with _|⟨m',e'⟩;·unfold br;go_wp2_with fail;refine bodyPost_ret (v:=br none) (by simp[results,br,Tryz.results317,go_sem, *]<;>rfl) rfl ?_;exact⟨rfl,by first|exact ab (dh HZ9.out.2 (by omega) _ _) _|exact dh (ab HZ9.out.2 _) (by omega) _ _⟩
           ·unfold br;go_wp2_with fail;refine bodyPost_ret (v:=br (some (m',e'))) (by simp[results,br,Tryz.results317,go_sem, *]<;>rfl) rfl ?_;exact⟨rfl,by first|exact ab (dh HZ9.out.2 (by omega) _ _) _|exact dh (ab HZ9.out.2 _) (by omega) _ _⟩
end Go.Proofs.YtodpdjehjllhdaaGreatDoor
